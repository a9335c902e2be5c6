/-
  A text's records.
-/
import Derived.Test.YtifmekddikapeaaRcOne
namespace Go.Proofs.Ytifmekddikapeaa
open Go.AM
set_option autoImplicit false
set_option linter.unusedSimpArgs false
set_option linter.unusedVariables false

theorem take_len_le (s : List UInt8) (m : Nat) (h : m ≤ s.length) : (s.take m).length = m := by rw [List.length_take]; omega

theorem oneO_raw {s : List UInt8} {r : Record} (h : oneO s = some r) : 1 ≤ r.raw.length ∧ r.raw.length ≤ s.length ∧ r.raw = s.take r.raw.length := by
  have key : ∀ m, 1 ≤ m → m ≤ s.length → r.raw = s.take m → 1 ≤ r.raw.length ∧ r.raw.length ≤ s.length ∧ r.raw = s.take r.raw.length := by
    intro m h1 h2 h3
    have : r.raw.length = m := by rw [h3, take_len_le s m h2]
    rw [this]; exact ⟨h1, h2, h3⟩
  unfold oneO at h
  cases hv : vdec 10 s with
  | none => simp [hv] at h
  | some p =>
    obtain ⟨t, n⟩ := p
    obtain ⟨h1, h2, h3, h4⟩ := vdec_10 hv
    have hd : (s.drop n).length = s.length - n := List.length_drop
    simp only [hv] at h
    split at h
    · simp at h
    · split at h
      · cases hk : vdec 10 (s.drop n) with
        | none => simp [hk] at h
        | some q =>
          obtain ⟨v, k⟩ := q
          obtain ⟨g1, g2, g3, g4⟩ := vdec_10 hk
          simp only [hk, Option.some.injEq] at h
          exact key (n + k) (by omega) (by omega) (by rw [← h])
      · split at h
        · cases hk : vdec 10 (s.drop n) with
          | none => simp [hk] at h
          | some q =>
            obtain ⟨v, k⟩ := q
            obtain ⟨g1, g2, g3, g4⟩ := vdec_10 hk
            have hd2 : ((s.drop n).drop k).length = (s.drop n).length - k := List.length_drop
            simp only [hk] at h
            split at h
            · simp at h
            · simp only [Option.some.injEq] at h
              exact key (n + k + v) (by omega) (by omega) (by rw [← h])
        · split at h
          · split at h
            · simp at h
            · simp only [Option.some.injEq] at h
              exact key (n + 8) (by omega) (by omega) (by rw [← h])
          · split at h
            · split at h
              · simp at h
              · simp only [Option.some.injEq] at h
                exact key (n + 4) (by omega) (by omega) (by rw [← h])
            · simp at h

theorem splitO_fuel : ∀ (k j : Nat) (s : List UInt8), s.length ≤ k → s.length ≤ j → splitO k s = splitO j s
  | 0, j, s, h, _ => by
    obtain rfl : s = [] := List.length_eq_zero_iff.1 (by omega)
    cases j <;> rfl
  | k + 1, j, [], _, _ => by cases j <;> rfl
  | k + 1, 0, c :: s, _, h => by simp at h
  | k + 1, j + 1, c :: s, h1, h2 => by
    simp only [splitO]
    cases ho : oneO (c :: s) with
    | none => rfl
    | some r =>
      have := (oneO_raw ho).1
      simp only
      rw [splitO_fuel k j _ (by simp at h1 ⊢; omega) (by simp at h2 ⊢; omega)]

theorem splitO_step (s : List UInt8) (hs : s ≠ []) : splitO s.length s = match oneO s with
    | none => none
    | some r => (splitO (s.drop r.raw.length).length (s.drop r.raw.length)).map (r :: ·) := by
  cases s with
  | nil => exact absurd rfl hs
  | cons c s =>
    simp only [List.length_cons, splitO]
    cases ho : oneO (c :: s) with
    | none => rfl
    | some r =>
      have := (oneO_raw ho).1
      simp only
      rw [splitO_fuel s.length ((c :: s).drop r.raw.length).length _ (by simp; omega) (Nat.le_refl _)]
      cases splitO ((c :: s).drop r.raw.length).length ((c :: s).drop r.raw.length) <;> rfl

def Fsplit (x : List UInt8 × List Record) : V :=
  match splitO x.1.length x.1 with
  | some l => .tup [.sl .record (.may false) (x.2 ++ l), .int .i64 0]
  | none => .tup [.sl .record (.may false) ([] : List Record), .int .i64 2]

theorem Fsplit_nil (l : List Record) : Fsplit ([], l) = .tup [.sl .record (.may false) l, .int .i64 0] := by simp [Fsplit, splitO]

theorem Fsplit_none {s : List UInt8} (l : List Record) (hs : s ≠ []) (h : oneO s = none) : Fsplit (s, l) = .tup [.sl .record (.may false) ([] : List Record), .int .i64 2] := by
  simp only [Fsplit]
  rw [splitO_step s hs, h]

theorem Fsplit_some {s : List UInt8} (l : List Record) (hs : s ≠ []) {r : Record} (h : oneO s = some r) : Fsplit (s, l) = Fsplit (s.drop r.raw.length, l ++ [r]) := by
  simp only [Fsplit]
  rw [splitO_step s hs, h]
  dsimp only
  generalize splitO (s.drop r.raw.length).length (s.drop r.raw.length) = o
  cases o <;> simp

theorem splitR_eq (s : List UInt8) : V.tup [.sl .record (.may false) (splitR s).1, .int .i64 (splitR s).2] = if 5000 < s.length then V.tup [.sl .record (.may false) ([] : List Record), .int .i64 3] else Fsplit (s, []) := by
  unfold splitR Fsplit
  split
  · rfl
  · cases splitO s.length s <;> simp

structure SplitSt (n : Nat) (x : List UInt8 × List Record) : Prop where
  le : x.1.length + x.2.length ≤ n

theorem sh_rec_Split_eq (N : Nat) (s : List UInt8) (hs : s.length ≤ maxI) (hN : s.length < N) : (sh_rec_Split N s).map (·.1) = some (.tup [.sl .record (.may false) (splitR s).1, .int .i64 (splitR s).2]) := by
  rw [splitR_eq]
  simp only [sh_rec_Split, sa_rec_Split, maxI] at hs ⊢
  by_cases h5 : 5000 < s.length
  · simp (disch := omega) only [rbase, ]
  · simp (disch := omega) only [rbase, ]
    refine iterL_fst (SplitSt 5000) (fun x => x.1.length) Fsplit ?_ N _ ⟨by simp; omega⟩ hN
    rintro rec ⟨v0, v4⟩ ⟨hl⟩ hrec
    simp only at hl hrec ⊢
    simp only [B_rec_Split_0]
    by_cases h0 : v0 = []
    · subst h0
      rw [Fsplit_nil]
      rfl
    · simp only [h0, decide_false, Bool.not_false, cond_true]
      cases ho : oneO v0 with
      | none =>
        rw [Fsplit_none v4 h0 ho]
        simp only [oneR, ho]
        rfl
      | some r =>
        obtain ⟨g1, g2, g3⟩ := oneO_raw ho
        have e : oneR v0 = (r, 0) := by simp [oneR, ho]
        rw [Fsplit_some v4 h0 ho, ← hrec (v0.drop r.raw.length, v4 ++ [r]) ⟨by simp; omega⟩ (by simp; omega)]
        simp (disch := omega) only [rbase, e, EK.bytes, reach, List.length_singleton]

theorem sh_ref1_Split_eq (N : Nat) (s : List UInt8) (hs : s.length ≤ maxI) (hN : s.length < N) : (sh_ref1_Split N s).map (·.1) = some (.tup [.sl .record (.may false) (splitR s).1, .int .i64 (splitR s).2]) := by
  rw [splitR_eq]
  simp only [sh_ref1_Split, sa_ref1_Split, maxI] at hs ⊢
  by_cases h5 : 5000 < s.length
  · simp (disch := omega) only [rbase, ]
  · simp (disch := omega) only [rbase, ]
    refine iterL_fst (SplitSt 5000) (fun x => x.1.length) Fsplit ?_ N _ ⟨by simp; omega⟩ hN
    rintro rec ⟨s, l⟩ ⟨hl⟩ hrec
    simp only at hl hrec ⊢
    simp only [B_ref1_Split_0]
    by_cases h0 : s = []
    · subst h0
      rw [Fsplit_nil]
      rfl
    have hpos : 0 < s.length := List.length_pos_iff.2 h0
    cases hv : vdec 10 s with
    | none =>
      have ho : oneO s = none := by simp [oneO, hv]
      rw [Fsplit_none l h0 ho]
      have e0 : vintR s = (0, 0, 2) := by simp [vintR, hv]
      simp (disch := omega) only [rbase, e0]
    | some p =>
    obtain ⟨t, n⟩ := p
    obtain ⟨h1, h2, h3, h4⟩ := vdec_10 hv
    have e0 : vintR s = ((t : Int), (n : Int), 0) := by simp [vintR, hv]
    have e1 : IntKind.wrap .u64 (Int.tdiv (t : Int) 8) = ((t / 8 : Nat) : Int) := by rw [show Int.tdiv (t : Int) 8 = ((t / 8 : Nat) : Int) from tdiv_nat _ _, wrap_u64_of _ (by omega)]
    have e2 : Int.tmod (t : Int) 8 = ((t % 8 : Nat) : Int) := tmod_nat _ _
    have e3 : IntKind.wrap .i64 ((t % 8 : Nat) : Int) = ((t % 8 : Nat) : Int) := wrap_i64_of _ (by omega)
    have e4 : IntKind.wrap .i64 ((t / 8 : Nat) : Int) = ((t / 8 : Nat) : Int) := wrap_i64_of _ (by omega)
    simp only [e0, e1, e2, e3, e4, Int.toNat_natCast, List.take_length, List.drop_zero]
    have hd : (s.drop n).length = s.length - n := List.length_drop
    have hA : t / 8 < 2 ^ 61 := by omega
    have hB : t % 8 < 8 := by omega
    have hone : oneO s = (if t / 8 < 1 ∨ 536870911 < t / 8 then none
      else if t % 8 = 0 then
        match vdec 10 (s.drop n) with
        | none => none
        | some (v, k) => some ⟨(t / 8 : Nat), 0, (v : Nat), [], s.take (n + k)⟩
      else if t % 8 = 2 then
        match vdec 10 (s.drop n) with
        | none => none
        | some (v, k) => if ((s.drop n).drop k).length < v then none else some ⟨(t / 8 : Nat), 2, 0, ((s.drop n).drop k).take v, s.take (n + k + v)⟩
      else if t % 8 = 1 then
        if (s.drop n).length < 8 then none else some ⟨(t / 8 : Nat), 1, lowR ((s.drop n).take 8), [], s.take (n + 8)⟩
      else if t % 8 = 5 then
        if (s.drop n).length < 4 then none else some ⟨(t / 8 : Nat), 5, lowR ((s.drop n).take 4), [], s.take (n + 4)⟩
      else none) := by unfold oneO; rw [hv]; rfl
    generalize t / 8 = A at *
    generalize t % 8 = B at *
    have hB' : B = 0 ∨ B = 1 ∨ B = 2 ∨ B = 5 ∨ (B ≠ 0 ∧ B ≠ 1 ∧ B ≠ 2 ∧ B ≠ 5) := by omega
    clear e1 e2 e3 e4 hB e0 hv
    by_cases a : A < 1 ∨ 536870911 < A
    · rw [if_pos a] at hone
      rw [Fsplit_none l h0 hone]
      rcases a with a | a <;> simp (disch := omega) only [rbase, ]
    rw [if_neg a] at hone
    cases h' : vdec 10 (s.drop n) with
    | none =>
      have e0 : vintR (s.drop n) = (0, 0, 2) := by simp [vintR, h']
      rcases hB' with rfl | rfl | rfl | rfl | ⟨q0, q1, q2, q5⟩
      · simp (disch := omega) only [rbase, h'] at hone
        rw [Fsplit_none l h0 hone]
        simp (disch := omega) only [rbase, e0]
      · by_cases hl : (s.drop n).length < 8
        all_goals simp (disch := omega) only [rbase, ] at hone
        · rw [Fsplit_none l h0 hone]
          simp (disch := omega) only [rbase, ]
        · rw [Fsplit_some l h0 hone, ← hrec (s.drop (s.take (n + 8)).length, l ++ [_]) ⟨by simp; omega⟩ (by simp; omega)]
          have hd3 : (s.take (n + 8)).length = n + 8 := take_len_le _ _ (by omega)
          have hd4 : (s.drop n).take 8 = (s.take (n + 8)).drop n := by rw [List.drop_take]; congr 1; omega
          simp (disch := omega) only [rbase, EK.bytes, reach, List.length_singleton, hd3, hd4, toNat_of (show (n : Int) + 8 = ((n + 8 : Nat) : Int) by omega)]
          rfl
      · simp (disch := omega) only [rbase, h'] at hone
        rw [Fsplit_none l h0 hone]
        simp (disch := omega) only [rbase, e0]
      · by_cases hl : (s.drop n).length < 4
        all_goals simp (disch := omega) only [rbase, ] at hone
        · rw [Fsplit_none l h0 hone]
          simp (disch := omega) only [rbase, ]
        · rw [Fsplit_some l h0 hone, ← hrec (s.drop (s.take (n + 4)).length, l ++ [_]) ⟨by simp; omega⟩ (by simp; omega)]
          have hd3 : (s.take (n + 4)).length = n + 4 := take_len_le _ _ (by omega)
          have hd4 : (s.drop n).take 4 = (s.take (n + 4)).drop n := by rw [List.drop_take]; congr 1; omega
          simp (disch := omega) only [rbase, EK.bytes, reach, List.length_singleton, hd3, hd4, toNat_of (show (n : Int) + 4 = ((n + 4 : Nat) : Int) by omega)]
          rfl
      · simp (disch := omega) only [rbase, h'] at hone
        rw [Fsplit_none l h0 hone]
        simp (disch := omega) only [rbase, e0]
    | some p =>
      obtain ⟨v, k⟩ := p
      obtain ⟨g1, g2, g3, g4⟩ := vdec_10 h'
      have e0 : vintR (s.drop n) = ((v : Int), (k : Int), 0) := by simp [vintR, h']
      have hd2 : ((s.drop n).drop k).length = (s.drop n).length - k := List.length_drop
      rcases hB' with rfl | rfl | rfl | rfl | ⟨q0, q1, q2, q5⟩
      · simp (disch := omega) only [rbase, h'] at hone
        rw [Fsplit_some l h0 hone, ← hrec (s.drop (s.take (n + k)).length, l ++ [_]) ⟨by simp; omega⟩ (by simp; omega)]
        have hd3 : (s.take (n + k)).length = n + k := take_len_le _ _ (by omega)
        simp (disch := omega) only [rbase, e0, EK.bytes, reach, List.length_singleton, hd3, toNat_of (show (n : Int) + k = ((n + k : Nat) : Int) by omega)]
        rfl
      · by_cases hl : (s.drop n).length < 8
        all_goals simp (disch := omega) only [rbase, ] at hone
        · rw [Fsplit_none l h0 hone]
          simp (disch := omega) only [rbase, ]
        · rw [Fsplit_some l h0 hone, ← hrec (s.drop (s.take (n + 8)).length, l ++ [_]) ⟨by simp; omega⟩ (by simp; omega)]
          have hd3 : (s.take (n + 8)).length = n + 8 := take_len_le _ _ (by omega)
          have hd4 : (s.drop n).take 8 = (s.take (n + 8)).drop n := by rw [List.drop_take]; congr 1; omega
          simp (disch := omega) only [rbase, EK.bytes, reach, List.length_singleton, hd3, hd4, toNat_of (show (n : Int) + 8 = ((n + 8 : Nat) : Int) by omega)]
          rfl
      · by_cases hl : ((s.drop n).drop k).length < v
        all_goals simp (disch := omega) only [rbase, h'] at hone
        · rw [Fsplit_none l h0 hone]
          simp (disch := omega) only [rbase, e0]
        · rw [Fsplit_some l h0 hone, ← hrec (s.drop (s.take (n + k + v)).length, l ++ [_]) ⟨by simp; omega⟩ (by simp; omega)]
          have hd3 : (s.take (n + k + v)).length = n + k + v := take_len_le _ _ (by omega)
          have hd4 : ((s.drop n).drop k).take v = (s.take (n + k + v)).drop (n + k) := by rw [List.drop_take, List.drop_drop]; congr 1; omega
          simp (disch := omega) only [rbase, e0, EK.bytes, reach, List.length_singleton, hd3, hd4, toNat_of (show (n : Int) + k + v = ((n + k + v : Nat) : Int) by omega), toNat_of (show (n : Int) + k = ((n + k : Nat) : Int) by omega)]
          rfl
      · by_cases hl : (s.drop n).length < 4
        all_goals simp (disch := omega) only [rbase, ] at hone
        · rw [Fsplit_none l h0 hone]
          simp (disch := omega) only [rbase, ]
        · rw [Fsplit_some l h0 hone, ← hrec (s.drop (s.take (n + 4)).length, l ++ [_]) ⟨by simp; omega⟩ (by simp; omega)]
          have hd3 : (s.take (n + 4)).length = n + 4 := take_len_le _ _ (by omega)
          have hd4 : (s.drop n).take 4 = (s.take (n + 4)).drop n := by rw [List.drop_take]; congr 1; omega
          simp (disch := omega) only [rbase, EK.bytes, reach, List.length_singleton, hd3, hd4, toNat_of (show (n : Int) + 4 = ((n + 4 : Nat) : Int) by omega)]
          rfl
      · simp (disch := omega) only [rbase, h'] at hone
        rw [Fsplit_none l h0 hone]
        simp (disch := omega) only [rbase, e0]
end Go.Proofs.Ytifmekddikapeaa
