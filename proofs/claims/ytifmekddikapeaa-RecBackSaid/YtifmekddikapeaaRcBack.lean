/-
  RecBack: what is written is split as it was.
-/
import Derived.Test.YtifmekddikapeaaRcCode4
import Derived.Test.YtifmekddikapeaaRcLaw2
namespace Go.Proofs.Ytifmekddikapeaa
open Go.AM
set_option autoImplicit false
set_option linter.unusedSimpArgs false
set_option linter.unusedVariables false

theorem lowN_lowsN : ∀ k v : Nat, lowN (lowsN k v) = v % 256 ^ k
  | 0, v => by simp [lowN, lowsN, Nat.mod_one]
  | k + 1, v => by
    rw [lowsN, lowN, lowN_lowsN k, ofNat_toNat _ (by omega), Nat.pow_succ, Nat.mul_comm (256 ^ k) 256, Nat.mod_mul]

theorem tag_put (a w n : Nat) (s : List UInt8) : putN 9 (a * 8 + w) = putV ((a : Int) * 8 + (w : Int)) := by
  unfold putV
  congr 1

theorem vdec_tag (a w : Nat) (ha : a ≤ 536870911) (hw : w < 8) (m : List UInt8) : vdec 10 (putN 9 (a * 8 + w) ++ m) = some (a * 8 + w, (putN 9 (a * 8 + w)).length) := by
  have e : (128 : Nat) ^ 9 * 2 = 18446744073709551616 := by decide
  exact vdec_putN 9 _ m (by omega)

theorem vdec_num (n : Nat) (hn : n < 18446744073709551616) (m : List UInt8) : vdec 10 (putN 9 n ++ m) = some (n, (putN 9 n).length) := by
  have e : (128 : Nat) ^ 9 * 2 = 18446744073709551616 := by decide
  exact vdec_putN 9 n m (by omega)

theorem one0 (a n : Nat) (ha : 1 ≤ a ∧ a ≤ 536870911) (hn : n < 18446744073709551616) : oneO (putN 9 (a * 8 + 0) ++ putN 9 n) = some ⟨(a : Int), 0, (n : Int), [], putN 9 (a * 8 + 0) ++ putN 9 n⟩ := by
  have e := vdec_num n hn []
  rw [List.append_nil] at e
  unfold oneO
  rw [vdec_tag a 0 ha.2 (by omega)]
  simp only
  rw [if_neg (by omega), if_pos (by omega), List.drop_left, e]
  simp only
  rw [show (a * 8 + 0) / 8 = a by omega, ← List.length_append, List.take_length]

theorem one2 (a : Nat) (s : List UInt8) (ha : 1 ≤ a ∧ a ≤ 536870911) (hs : s.length ≤ 100) : oneO (putN 9 (a * 8 + 2) ++ (putN 9 s.length ++ s)) = some ⟨(a : Int), 2, 0, s, putN 9 (a * 8 + 2) ++ (putN 9 s.length ++ s)⟩ := by
  have e := vdec_num s.length (by omega) s
  unfold oneO
  rw [vdec_tag a 2 ha.2 (by omega)]
  simp only
  rw [if_neg (by omega), if_neg (by omega), if_pos (by omega), List.drop_left, e]
  simp only
  rw [List.drop_left, if_neg (by omega), List.take_length, show (a * 8 + 2) / 8 = a by omega,
    show (putN 9 (a * 8 + 2)).length + (putN 9 s.length).length + s.length = (putN 9 (a * 8 + 2) ++ (putN 9 s.length ++ s)).length by simp [Nat.add_assoc], List.take_length]

theorem one1 (a n : Nat) (ha : 1 ≤ a ∧ a ≤ 536870911) (hn : n < 18446744073709551616) : oneO (putN 9 (a * 8 + 1) ++ lowsN 8 n) = some ⟨(a : Int), 1, (n : Int), [], putN 9 (a * 8 + 1) ++ lowsN 8 n⟩ := by
  have hl := lowsN_len 8 n
  unfold oneO
  rw [vdec_tag a 1 ha.2 (by omega)]
  simp only
  rw [if_neg (by omega), if_neg (by omega), if_neg (by omega), if_pos (by omega), List.drop_left, if_neg (by omega), show (a * 8 + 1) / 8 = a by omega,
    show (putN 9 (a * 8 + 1)).length + 8 = (putN 9 (a * 8 + 1) ++ lowsN 8 n).length by simp [hl], List.take_length]
  have e : lowR ((lowsN 8 n).take 8) = (n : Int) := by
    rw [List.take_of_length_le (by omega), lowR, lowN_lowsN]
    have e1 : (256 : Nat) ^ 8 = 18446744073709551616 := by decide
    have e2 : (2 : Nat) ^ 64 = 18446744073709551616 := by decide
    rw [e1]
    omega
  rw [e]

theorem one5 (a n : Nat) (ha : 1 ≤ a ∧ a ≤ 536870911) (hn : n < 4294967296) : oneO (putN 9 (a * 8 + 5) ++ lowsN 4 n) = some ⟨(a : Int), 5, (n : Int), [], putN 9 (a * 8 + 5) ++ lowsN 4 n⟩ := by
  have hl := lowsN_len 4 n
  unfold oneO
  rw [vdec_tag a 5 ha.2 (by omega)]
  simp only
  rw [if_neg (by omega), if_neg (by omega), if_neg (by omega), if_neg (by omega), if_pos (by omega), List.drop_left, if_neg (by omega), show (a * 8 + 5) / 8 = a by omega,
    show (putN 9 (a * 8 + 5)).length + 4 = (putN 9 (a * 8 + 5) ++ lowsN 4 n).length by simp [hl], List.take_length]
  have e : lowR ((lowsN 4 n).take 4) = (n : Int) := by
    rw [List.take_of_length_le (by omega), lowR, lowN_lowsN]
    have e1 : (256 : Nat) ^ 4 = 4294967296 := by decide
    have e2 : (2 : Nat) ^ 64 = 18446744073709551616 := by decide
    rw [e1]
    omega
  rw [e]

theorem split_one {x : List UInt8} {a w n : Int} {s : List UInt8} (h : oneO x = some ⟨a, w, n, s, x⟩) (h0 : x ≠ []) (hl : x.length ≤ 5000) : splitR x = ([⟨a, w, n, s, x⟩], 0) := by
  unfold splitR
  rw [if_neg (by omega)]
  cases x with
  | nil => exact absurd rfl h0
  | cons c r =>
    have e : splitO (r.length + 1) (c :: r) = some [⟨a, w, n, s, c :: r⟩] := by
      rw [splitO, h]
      simp only
      rw [List.drop_length]
      have : splitO r.length [] = some [] := by cases r.length <;> rfl
      rw [this]
    rw [List.length_cons, e]

theorem split_put (a n : Nat) (s : List UInt8) (w : Int) (ha : 1 ≤ a ∧ a ≤ 536870911)
    (hw : (w = 0 ∧ n < 18446744073709551616 ∧ s = []) ∨ (w = 1 ∧ n < 18446744073709551616 ∧ s = []) ∨ (w = 2 ∧ n = 0 ∧ s.length ≤ 100) ∨ (w = 5 ∧ n < 4294967296 ∧ s = [])) :
    splitR (putR ⟨(a : Int), w, (n : Int), s, []⟩) = ([⟨(a : Int), w, (n : Int), s, putR ⟨(a : Int), w, (n : Int), s, []⟩⟩], 0) := by
  have p : ∀ v, (putN 9 v).length ≤ 10 ∧ 1 ≤ (putN 9 v).length := fun v => ⟨putN_len 9 v, putN_pos 9 v⟩
  have key : ∀ x : List UInt8, putR ⟨(a : Int), w, (n : Int), s, []⟩ = x → oneO x = some ⟨(a : Int), w, (n : Int), s, x⟩ → 1 ≤ x.length → x.length ≤ 5000 → splitR (putR ⟨(a : Int), w, (n : Int), s, []⟩) = ([⟨(a : Int), w, (n : Int), s, putR ⟨(a : Int), w, (n : Int), s, []⟩⟩], 0) := by
    intro x e h h1 h2
    rw [e]
    exact split_one h (by rintro rfl; simp at h1) h2
  have hna : ¬ ((a : Int) < 1 ∨ 536870911 < (a : Int)) := by omega
  have ht : ∀ k : Nat, k < 8 → putV ((a : Int) * 8 + ((k : Nat) : Int) % 8) = putN 9 (a * 8 + k) := by
    intro k hk
    unfold putV
    congr 1
    omega
  rcases hw with ⟨rfl, hn, rfl⟩ | ⟨rfl, hn, rfl⟩ | ⟨rfl, rfl, hs⟩ | ⟨rfl, hn, rfl⟩
  · refine key (putN 9 (a * 8 + 0) ++ putN 9 n) ?_ (one0 a n ha hn) (by rw [List.length_append]; have := p (a * 8 + 0); omega) (by rw [List.length_append]; have := p (a * 8 + 0); have := p n; omega)
    simp only [putR]
    rw [if_neg hna, if_pos trivial, ← ht 0 (by omega)]
    rfl
  · refine key (putN 9 (a * 8 + 1) ++ lowsN 8 n) ?_ (one1 a n ha hn) (by rw [List.length_append]; have := p (a * 8 + 1); omega) (by rw [List.length_append, lowsN_len]; have := p (a * 8 + 1); omega)
    simp only [putR]
    rw [if_neg hna, if_neg (by decide), if_neg (by decide), if_pos trivial, ← ht 1 (by omega)]
    rfl
  · refine key (putN 9 (a * 8 + 2) ++ (putN 9 s.length ++ s)) ?_ (one2 a s ha hs) (by rw [List.length_append]; have := p (a * 8 + 2); omega) (by rw [List.length_append, List.length_append]; have := p (a * 8 + 2); have := p s.length; omega)
    simp only [putR]
    rw [if_neg hna, if_neg (by decide), if_pos trivial, ← ht 2 (by omega), List.append_assoc]
    rfl
  · refine key (putN 9 (a * 8 + 5) ++ lowsN 4 n) ?_ (one5 a n ha hn) (by rw [List.length_append]; have := p (a * 8 + 5); omega) (by rw [List.length_append, lowsN_len]; have := p (a * 8 + 5); omega)
    simp only [putR]
    rw [if_neg hna, if_neg (by decide), if_neg (by decide), if_neg (by decide), if_pos trivial, ← ht 5 (by omega)]
    rfl

/-- Split's run, with its list handed out -/
theorem sh_rec_Split_r_eq (N : Nat) (s : List UInt8) (hs : s.length ≤ maxI) (hN : s.length < N) (h0 : 0 < (splitR s).1.length) :
    sh_rec_Split_r N s = some (wrapR (some ([], [.int .i64 (splitR s).2])) (.sw .record 0 (splitR s).1.length), [some [.rw .record (splitR s).1], none]) := by
  simp only [sh_rec_Split_r, sa_rec_Split_r, maxI, wrapR, List.nil_append] at hs ⊢
  unfold splitR at h0 ⊢
  by_cases h5 : 5000 < s.length
  · rw [if_pos h5] at h0
    simp at h0
  · rw [if_neg h5] at h0 ⊢
    cases hL : splitO s.length s with
    | none => rw [hL] at h0; simp at h0
    | some L =>
      rw [hL] at h0
      simp only at h0 ⊢
      rw [decide_eq_false (show ¬ (5000 : Int) < (s.length : Int) by omega)]
      simp only [cond_false]
      refine iterL_spec (fun (x : List UInt8 × List Record) => x.1.length + x.2.length ≤ 5000 ∧ ∃ l, splitO x.1.length x.1 = some l ∧ x.2 ++ l = L) (fun x => x.1.length) (fun _ => (V.tup [.sw .record 0 L.length, .int .i64 0], [some [V.rw .record L], none])) ?_ N _ ⟨by simp; omega, L, hL, rfl⟩ hN
      rintro rec ⟨v0, v4⟩ ⟨hl, l, e1, e2⟩ hrec
      simp only at hl e1 e2 hrec ⊢
      simp only [B_rec_Split_r_0]
      by_cases hv : v0 = []
      · subst hv
        have e3 : l = [] := by
          have : splitO ([] : List UInt8).length [] = some [] := rfl
          rw [this] at e1
          exact (Option.some.inj e1).symm
        subst e3
        rw [List.append_nil] at e2
        subst e2
        rw [decide_eq_true h0]
        rfl
      · rw [splitO_step v0 hv] at e1
        simp only [hv, decide_false, Bool.not_false, cond_true]
        cases ho : oneO v0 with
        | none => rw [ho] at e1; simp at e1
        | some r =>
          obtain ⟨g1, g2, g3⟩ := oneO_raw ho
          rw [ho] at e1
          simp only [Option.map_eq_some_iff] at e1
          obtain ⟨l2, e3, rfl⟩ := e1
          have e : oneR v0 = (r, 0) := by simp [oneR, ho]
          rw [← hrec (v0.drop r.raw.length, v4 ++ [r]) ⟨by simp; omega, l2, e3, by rw [← e2]; simp⟩ (by simp; omega)]
          simp (disch := omega) only [rbase, e, EK.bytes, reach, List.length_singleton]

theorem row_rec_Split (a0 : List UInt8) (h0 : decide (0 < (splitR a0).1.length) = true) : RowFn Try.prog i_rec_Split [.str a0] (some ([], [.int .i64 (splitR a0).2])) .record (splitR a0).1 := by
  have h1 : a0.length ≤ 5000 := by
    rcases Nat.lt_or_ge 5000 a0.length with h | h
    · simp only [splitR, if_pos h] at h0
      simp at h0
    · exact h
  exact ok_rec_Split_r (spec_rec_Split_r pure_rec_one) (a0.length + 1) a0 (sh_rec_Split_r_eq _ a0 (by unfold maxI; omega) (by omega) (of_decide_eq_true h0))

theorem back_core (N : Nat) (p0 p1 p2 : Int) (s : List UInt8) (h0 : 0 ≤ p0 ∧ p0 ≤ 4294967295) (h1 : 0 ≤ p1 ∧ p1 ≤ 255) (h2 : 0 ≤ p2 ∧ p2 ≤ 18446744073709551615) : (sh_law1_RecBack N p0 p1 p2 s).map (·.1) = some (.bool true) := by
  simp only [sh_law1_RecBack, sa_law1_RecBack]
  by_cases hs : 100 < s.length
  · rw [decide_eq_true (show (100 : Int) < (s.length : Int) by omega)]
    rfl
  rw [decide_eq_false (show ¬ (100 : Int) < (s.length : Int) by omega)]
  simp only [cond_false]
  obtain ⟨q, rfl⟩ : ∃ q : Nat, p0 = (q : Int) := ⟨p0.toNat, by omega⟩
  obtain ⟨m, rfl⟩ : ∃ m : Nat, p1 = (m : Int) := ⟨p1.toNat, by omega⟩
  obtain ⟨n, rfl⟩ : ∃ n : Nat, p2 = (n : Int) := ⟨p2.toNat, by omega⟩
  have e1 : IntKind.wrap .i64 (1 + Int.tmod (IntKind.wrap .i64 (q : Int)) 536870911) = ((1 + q % 536870911 : Nat) : Int) := by
    rw [wrap_i64_of (q : Int) (by omega), Int.tmod_eq_emod_of_nonneg (by omega), wrap_i64_of _ (by omega)]
    omega
  have e2 : Int.tmod (m : Int) 4 = ((m % 4 : Nat) : Int) := by
    rw [Int.tmod_eq_emod_of_nonneg (by omega)]
    omega
  have e3 : Int.tmod (n : Int) 4294967296 = ((n % 4294967296 : Nat) : Int) := by
    rw [Int.tmod_eq_emod_of_nonneg (by omega)]
    omega
  rw [e1, e2, e3]
  have ha : 1 ≤ 1 + q % 536870911 ∧ 1 + q % 536870911 ≤ 536870911 := by omega
  generalize 1 + q % 536870911 = a at ha ⊢
  have hm : m % 4 = 0 ∨ m % 4 = 1 ∨ m % 4 = 2 ∨ m % 4 = 3 := by omega
  have fits : s.length ≤ 9223372036854000000 := by omega
  have f0 : decide (([] : List UInt8).length ≤ 9223372036854000000) = true := by simp
  rcases hm with hm | hm | hm | hm
  · have k := split_put a n [] 0 ha (.inl ⟨rfl, by omega, rfl⟩)
    rw [hm]
    simp [k, dflt, chk_t]
  · have k := split_put a n [] 1 ha (.inr (.inl ⟨rfl, by omega, rfl⟩))
    rw [hm]
    simp [k, dflt, chk_t]
  · have k := split_put a 0 s 2 ha (.inr (.inr (.inl ⟨rfl, rfl, by omega⟩)))
    rw [hm]
    simp at k
    simp [k, dflt, fits, chk_t]
  · have k := split_put a (n % 4294967296) [] 5 ha (.inr (.inr (.inr ⟨rfl, by omega, rfl⟩)))
    rw [hm]
    simp at k
    simp [k, dflt, chk_t]
end Go.Proofs.Ytifmekddikapeaa
