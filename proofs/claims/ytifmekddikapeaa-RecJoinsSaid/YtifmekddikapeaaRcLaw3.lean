/-
  RecJoins: what is split is joined as it was; records stand by themselves.
-/
import Derived.Test.YtifmekddikapeaaRcLaw1
namespace Go.Proofs.Ytifmekddikapeaa
open Go.AM
set_option autoImplicit false
set_option linter.unusedSimpArgs false
set_option linter.unusedVariables false

theorem vdec_app : ∀ (k : Nat) (s : List UInt8) (v n : Nat), vdec k s = some (v, n) → ∃ a b, s = a ++ b ∧ a.length = n ∧ ∀ t, vdec k (a ++ t) = some (v, n)
  | 0, s, v, n, h => by simp [vdec] at h
  | k + 1, [], v, n, h => by simp [vdec] at h
  | k + 1, c :: r, v, n, h => by
    rw [vdec] at h
    split at h
    · simp at h
    · rename_i h1
      split at h
      · rename_i h2
        simp only [Option.some.injEq, Prod.mk.injEq] at h
        obtain ⟨rfl, rfl⟩ := h
        exact ⟨[c], r, rfl, rfl, fun t => by rw [List.singleton_append, vdec, if_neg h1, if_pos h2]⟩
      · rename_i h2
        cases hr : vdec k r with
        | none => rw [hr] at h; simp at h
        | some p =>
          obtain ⟨v', n'⟩ := p
          rw [hr] at h
          simp only [Option.some.injEq, Prod.mk.injEq] at h
          obtain ⟨rfl, rfl⟩ := h
          obtain ⟨a, b, rfl, ha, hab⟩ := vdec_app k r v' n' hr
          exact ⟨c :: a, b, rfl, by simp [ha], fun t => by rw [List.cons_append, vdec, if_neg h1, if_neg h2, hab t]⟩

theorem app3 (a b c : List UInt8) (n : Nat) (h : a.length + b.length = n) : (a ++ (b ++ c)).take n = a ++ b := by
  rw [← List.append_assoc, List.take_left' (by rw [List.length_append]; exact h)]

theorem app4 (a b c d : List UInt8) (n : Nat) (h : a.length + b.length + c.length = n) : (a ++ (b ++ (c ++ d))).take n = a ++ (b ++ c) := by
  rw [← List.append_assoc b c d, app3 _ _ _ _ (by rw [List.length_append]; omega)]

theorem oneO_app {s : List UInt8} {r : Record} (h : oneO s = some r) : ∃ b, s = r.raw ++ b ∧ ∀ t, oneO (r.raw ++ t) = some r := by
  unfold oneO at h
  cases hv : vdec 10 s with
  | none => rw [hv] at h; simp at h
  | some p =>
    obtain ⟨tg, n⟩ := p
    obtain ⟨a, R, rfl, rfl, hab⟩ := vdec_app _ _ _ _ hv
    rw [hv] at h
    simp only [List.drop_left] at h
    split at h
    · simp at h
    · rename_i h1
      split at h
      · rename_i h2
        cases hw : vdec 10 R with
        | none => rw [hw] at h; simp at h
        | some p =>
          obtain ⟨v, k⟩ := p
          obtain ⟨a2, b, rfl, rfl, hab2⟩ := vdec_app _ _ _ _ hw
          rw [hw] at h
          simp only [Option.some.injEq] at h
          rw [app3 _ _ _ _ rfl] at h
          subst h
          refine ⟨b, by simp, fun t => ?_⟩
          simp only [oneO, List.append_assoc, hab, List.drop_left, hab2, app3 _ _ _ _ rfl]
          rw [if_neg h1, if_pos h2]
      · rename_i h2
        split at h
        · rename_i h3
          cases hw : vdec 10 R with
          | none => rw [hw] at h; simp at h
          | some p =>
            obtain ⟨v, k⟩ := p
            obtain ⟨a2, b, rfl, rfl, hab2⟩ := vdec_app _ _ _ _ hw
            rw [hw] at h
            simp only [List.drop_left] at h
            split at h
            · simp at h
            · rename_i h4
              obtain ⟨b1, b2, rfl, rfl⟩ : ∃ b1 b2, b = b1 ++ b2 ∧ b1.length = v := ⟨b.take v, b.drop v, (List.take_append_drop _ _).symm, by rw [List.length_take]; omega⟩
              simp only [Option.some.injEq] at h
              rw [app4 _ _ _ _ _ rfl, List.take_left] at h
              subst h
              refine ⟨b2, by simp, fun t => ?_⟩
              simp only [oneO, List.append_assoc, hab, List.drop_left, hab2, app4 _ _ _ _ _ rfl, List.take_left]
              rw [if_neg h1, if_neg h2, if_pos h3, if_neg (by rw [List.length_append]; omega)]
        · rename_i h3
          split at h
          · rename_i h4
            split at h
            · simp at h
            · rename_i h5
              obtain ⟨b1, b2, rfl, hb⟩ : ∃ b1 b2, R = b1 ++ b2 ∧ b1.length = 8 := ⟨R.take 8, R.drop 8, (List.take_append_drop _ _).symm, by rw [List.length_take]; omega⟩
              simp only [Option.some.injEq] at h
              rw [app3 _ _ _ _ (by rw [hb]), List.take_left' hb] at h
              subst h
              refine ⟨b2, by simp, fun t => ?_⟩
              simp only [oneO, List.append_assoc, hab, List.drop_left]
              rw [if_neg h1, if_neg h2, if_neg h3, if_pos h4, if_neg (by rw [List.length_append]; omega), app3 _ _ _ _ (by rw [hb]), List.take_left' hb]
          · rename_i h4
            split at h
            · rename_i h6
              split at h
              · simp at h
              · rename_i h5
                obtain ⟨b1, b2, rfl, hb⟩ : ∃ b1 b2, R = b1 ++ b2 ∧ b1.length = 4 := ⟨R.take 4, R.drop 4, (List.take_append_drop _ _).symm, by rw [List.length_take]; omega⟩
                simp only [Option.some.injEq] at h
                rw [app3 _ _ _ _ (by rw [hb]), List.take_left' hb] at h
                subst h
                refine ⟨b2, by simp, fun t => ?_⟩
                simp only [oneO, List.append_assoc, hab, List.drop_left]
                rw [if_neg h1, if_neg h2, if_neg h3, if_neg h4, if_pos h6, if_neg (by rw [List.length_append]; omega), app3 _ _ _ _ (by rw [hb]), List.take_left' hb]
            · simp at h

/-- a text that splits, and one behind it -/
theorem splitO_app : ∀ (m : Nat) (s t : List UInt8) (a b : List Record), s.length ≤ m → splitO s.length s = some a → splitO t.length t = some b →
    splitO (s ++ t).length (s ++ t) = some (a ++ b) ∧ a.length ≤ s.length ∧ ∀ r ∈ a, oneO r.raw = some r ∧ 1 ≤ r.raw.length ∧ r.raw.length ≤ s.length
  | m, [], t, a, b, hm, ha, hb => by
    have : a = [] := by simpa [splitO] using ha.symm
    subst this
    exact ⟨hb, Nat.le_refl _, by simp⟩
  | 0, c :: s, t, a, b, hm, ha, hb => by simp at hm
  | m + 1, c :: s, t, a, b, hm, ha, hb => by
    rw [splitO_step _ (by simp)] at ha
    cases ho : oneO (c :: s) with
    | none => rw [ho] at ha; simp at ha
    | some r =>
      rw [ho] at ha
      simp only at ha
      have hr := (oneO_raw ho).1
      obtain ⟨u, hu, hall⟩ := oneO_app ho
      rw [hu, List.drop_left] at ha
      cases hs : splitO u.length u with
      | none => rw [hs] at ha; simp at ha
      | some a' =>
        rw [hs] at ha
        simp only [Option.map_some, Option.some.injEq] at ha
        subst ha
        have hlen : (c :: s).length = r.raw.length + u.length := by rw [hu, List.length_append]
        obtain ⟨i1, i3, i2⟩ := splitO_app m u t a' b (by omega) hs hb
        refine ⟨?_, by rw [List.length_cons]; omega, ?_⟩
        · rw [splitO_step _ (by simp), hu, List.append_assoc, hall (u ++ t)]
          simp only [List.drop_left, i1, Option.map_some, List.cons_append]
        · intro q hq
          rcases List.mem_cons.1 hq with rfl | hq
          · have := hall []
            rw [List.append_nil] at this
            exact ⟨this, hr, by omega⟩
          · obtain ⟨j1, j2, j3⟩ := i2 q hq
            exact ⟨j1, j2, by omega⟩

theorem splitR_one {r : Record} (h : oneO r.raw = some r) (h1 : 1 ≤ r.raw.length) (h2 : r.raw.length ≤ 5000) : splitR r.raw = ([r], 0) := by
  have hne : r.raw ≠ [] := by intro e; rw [e] at h1; simp at h1
  unfold splitR
  rw [if_neg (by omega), splitO_step _ hne, h]
  simp [splitO]

theorem sh_law1_RecJoins_eq (N : Nat) (hN : 300 < N) (s t : List UInt8) : (sh_law1_RecJoins N s t).map (·.1) = some (.bool true) := by
  simp only [sh_law1_RecJoins, sa_law1_RecJoins]
  by_cases h1 : (100 : Int) < (s.length : Int)
  · simp (disch := omega) only [dt, df, it, iF, bt, bf, cond_true, cond_false, map_some', chk_t, Bool.and_true, Bool.true_and, Bool.and_false, Bool.false_and, Bool.or_true, Bool.true_or, Bool.or_false, Bool.false_or, Bool.not_true, Bool.not_false, if_true, if_false, beq_self_eq_true, wrap_i64_of, wrap_u64_of, wrap_i32_of, wrap_u32_of, wrap_u8_of, tdiv_of, tmod_of, Int.toNat_natCast, List.take_length, List.drop_zero, or_true, true_or, or_false, false_or, or_self, ]
  by_cases h2 : (100 : Int) < (t.length : Int)
  · simp (disch := omega) only [dt, df, it, iF, bt, bf, cond_true, cond_false, map_some', chk_t, Bool.and_true, Bool.true_and, Bool.and_false, Bool.false_and, Bool.or_true, Bool.true_or, Bool.or_false, Bool.false_or, Bool.not_true, Bool.not_false, if_true, if_false, beq_self_eq_true, wrap_i64_of, wrap_u64_of, wrap_i32_of, wrap_u32_of, wrap_u8_of, tdiv_of, tmod_of, Int.toNat_natCast, List.take_length, List.drop_zero, or_true, true_or, or_false, false_or, or_self, ]
  rcases splitR_cases s with ⟨a, ea, sa, ja⟩ | ⟨e, ea, ne⟩
  · rcases splitR_cases t with ⟨b, eb, sb, jb⟩ | ⟨f, eb, nf⟩
    · obtain ⟨p1, hla0, p2⟩ := splitO_app s.length s t a b (Nat.le_refl _) sa sb
      obtain ⟨-, hlb0, p3⟩ := splitO_app t.length t [] b [] (Nat.le_refl _) sb rfl
      have ec : splitR (s ++ t) = (a ++ b, 0) := by
        unfold splitR
        rw [if_neg (by rw [List.length_append]; omega), p1]
      have hla : a.length ≤ 100 := by omega
      have hlb : b.length ≤ 100 := by omega
      have ej : (joinR a).length ≤ 140737488355328 := by rw [ja]; omega
      simp (disch := omega) only [dt, df, it, iF, bt, bf, cond_true, cond_false, map_some', chk_t, Bool.and_true, Bool.true_and, Bool.and_false, Bool.false_and, Bool.or_true, Bool.true_or, Bool.or_false, Bool.false_or, Bool.not_true, Bool.not_false, if_true, if_false, beq_self_eq_true, wrap_i64_of, wrap_u64_of, wrap_i32_of, wrap_u32_of, wrap_u8_of, tdiv_of, tmod_of, Int.toNat_natCast, List.take_length, List.drop_zero, or_true, true_or, or_false, false_or, or_self, ea, eb, ec, ja, decide_true, List.length_append, Int.natCast_add]
      refine iterL_fst (fun (x : List Record × List Record × List Record × Int) => x.1 = a ∧ x.2.1 = b ∧ x.2.2.1 = a ++ b ∧ ∃ i : Nat, x.2.2.2 = (i : Int) ∧ i ≤ (a ++ b).length) (fun (x : List Record × List Record × List Record × Int) => ((x.2.2.1.length : Int) - x.2.2.2).toNat) (fun _ => .bool true) ?_ N _ ⟨rfl, rfl, rfl, 0, rfl, by omega⟩ (by simp; omega)
      rintro rec ⟨v5, v7, v9, v11⟩ ⟨q1, q2, q3, i, q4, q5⟩ hrec
      simp only at q1 q2 q3 q4 q5 hrec ⊢
      subst q1 q2 q3 q4
      simp only [B_law1_RecJoins_0]
      rw [List.length_append] at q5
      by_cases h : i < v5.length + v7.length
      · have hlt : i < (v5 ++ v7).length := by rw [List.length_append]; exact h
        have hmem : (v5 ++ v7).getD i (dflt .record) ∈ v5 ++ v7 := by
          rw [List.getD_eq_getElem?_getD, List.getElem?_eq_getElem hlt]
          exact List.getElem_mem hlt
        have hone : splitR ((v5 ++ v7).getD i (dflt .record)).raw = ([(v5 ++ v7).getD i (dflt .record)], 0) := by
          rcases List.mem_append.1 hmem with hm | hm
          · obtain ⟨j1, j2, j3⟩ := p2 _ hm
            exact splitR_one j1 j2 (by omega)
          · obtain ⟨j1, j2, j3⟩ := p3 _ hm
            exact splitR_one j1 j2 (by omega)
        by_cases hi : i < v5.length
        · have e : v5.getD i (dflt .record) = (v5 ++ v7).getD i (dflt .record) := by
            rw [List.getD_eq_getElem?_getD, List.getD_eq_getElem?_getD, List.getElem?_append_left hi]
          simp (disch := omega) only [dt, df, it, iF, bt, bf, cond_true, cond_false, map_some', chk_t, Bool.and_true, Bool.true_and, Bool.and_false, Bool.false_and, Bool.or_true, Bool.true_or, Bool.or_false, Bool.false_or, Bool.not_true, Bool.not_false, if_true, if_false, beq_self_eq_true, wrap_i64_of, wrap_u64_of, wrap_i32_of, wrap_u32_of, wrap_u8_of, tdiv_of, tmod_of, Int.toNat_natCast, List.take_length, List.drop_zero, or_true, true_or, or_false, false_or, or_self, hone, e, decide_true, List.length_append, List.length_singleton, List.getD_cons_zero, Int.toNat_zero]
          exact hrec _ ⟨rfl, rfl, rfl, i + 1, by simp, by rw [List.length_append]; omega⟩ (by simp only [List.length_append]; omega)
        · have e : v7.getD (i - v5.length) (dflt .record) = (v5 ++ v7).getD i (dflt .record) := by
            rw [List.getD_eq_getElem?_getD, List.getD_eq_getElem?_getD, List.getElem?_append_right (by omega)]
          have ew : IntKind.wrap .i64 ((i : Int) - (v5.length : Int)) = ((i - v5.length : Nat) : Int) := by rw [wrap_i64_of _ (by omega)]; omega
          simp (disch := omega) only [dt, df, it, iF, bt, bf, cond_true, cond_false, map_some', chk_t, Bool.and_true, Bool.true_and, Bool.and_false, Bool.false_and, Bool.or_true, Bool.true_or, Bool.or_false, Bool.false_or, Bool.not_true, Bool.not_false, if_true, if_false, beq_self_eq_true, wrap_i64_of, wrap_u64_of, wrap_i32_of, wrap_u32_of, wrap_u8_of, tdiv_of, tmod_of, Int.toNat_natCast, List.take_length, List.drop_zero, or_true, true_or, or_false, false_or, or_self, hone, ew, e, decide_true, List.length_append, List.length_singleton, List.getD_cons_zero, Int.toNat_zero]
          exact hrec _ ⟨rfl, rfl, rfl, i + 1, by simp, by rw [List.length_append]; omega⟩ (by simp only [List.length_append]; omega)
      · simp (disch := omega) only [dt, df, it, iF, bt, bf, cond_true, cond_false, map_some', chk_t, Bool.and_true, Bool.true_and, Bool.and_false, Bool.false_and, Bool.or_true, Bool.true_or, Bool.or_false, Bool.false_or, Bool.not_true, Bool.not_false, if_true, if_false, beq_self_eq_true, wrap_i64_of, wrap_u64_of, wrap_i32_of, wrap_u32_of, wrap_u8_of, tdiv_of, tmod_of, Int.toNat_natCast, List.take_length, List.drop_zero, or_true, true_or, or_false, false_or, or_self, List.length_append]
    · simp (disch := omega) only [dt, df, it, iF, bt, bf, cond_true, cond_false, map_some', chk_t, Bool.and_true, Bool.true_and, Bool.and_false, Bool.false_and, Bool.or_true, Bool.true_or, Bool.or_false, Bool.false_or, Bool.not_true, Bool.not_false, if_true, if_false, beq_self_eq_true, wrap_i64_of, wrap_u64_of, wrap_i32_of, wrap_u32_of, wrap_u8_of, tdiv_of, tmod_of, Int.toNat_natCast, List.take_length, List.drop_zero, or_true, true_or, or_false, false_or, or_self, ea, eb, List.length_nil]
  · rcases splitR_cases t with ⟨b, eb, sb, jb⟩ | ⟨f, eb, nf⟩
    · simp (disch := omega) only [dt, df, it, iF, bt, bf, cond_true, cond_false, map_some', chk_t, Bool.and_true, Bool.true_and, Bool.and_false, Bool.false_and, Bool.or_true, Bool.true_or, Bool.or_false, Bool.false_or, Bool.not_true, Bool.not_false, if_true, if_false, beq_self_eq_true, wrap_i64_of, wrap_u64_of, wrap_i32_of, wrap_u32_of, wrap_u8_of, tdiv_of, tmod_of, Int.toNat_natCast, List.take_length, List.drop_zero, or_true, true_or, or_false, false_or, or_self, ea, eb, List.length_nil]
    · simp (disch := omega) only [dt, df, it, iF, bt, bf, cond_true, cond_false, map_some', chk_t, Bool.and_true, Bool.true_and, Bool.and_false, Bool.false_and, Bool.or_true, Bool.true_or, Bool.or_false, Bool.false_or, Bool.not_true, Bool.not_false, if_true, if_false, beq_self_eq_true, wrap_i64_of, wrap_u64_of, wrap_i32_of, wrap_u32_of, wrap_u8_of, tdiv_of, tmod_of, Int.toNat_natCast, List.take_length, List.drop_zero, or_true, true_or, or_false, false_or, or_self, ea, eb, List.length_nil]
end Go.Proofs.Ytifmekddikapeaa
