/-
  How values are written: the runs of items, value, Encode; their contracts.
-/
import Derived.Test.YtdpajabhmmmjoaaAeFun
import Derived.Test.YtdpajabhmmmjoaaAvFun2
namespace Go.Proofs.Ytdpajabhmmmjoaa
open Go.AM
set_option autoImplicit false
set_option linter.unusedSimpArgs false
set_option linter.unusedVariables false
set_option maxRecDepth 100000

theorem wV_eta (v : AVal) : wV v = 40 + v.s.length + keyW v.keys + wL v.l := by cases v; rfl

theorem wL_drop : ∀ (l : List AVal) (i : Nat), wL (l.drop i) ≤ wL l
  | [], i => by simp
  | v :: l, 0 => by simp
  | v :: l, i + 1 => by
    have := wL_drop l i
    simp only [List.drop_succ_cons, wL]
    omega
theorem keyW_drop : ∀ (l : List (List UInt8)) (i : Nat), keyW (l.drop i) ≤ keyW l
  | [], i => by simp
  | v :: l, 0 => by simp
  | v :: l, i + 1 => by
    have := keyW_drop l i
    simp only [List.drop_succ_cons, keyW]
    omega
theorem eachS_get (ts : List AType) (t : Int) : ∀ (l : List AVal) (i : Nat), eachS ts t l = true → i < l.length → fitsS ts t (l.getD i (dflt .aval)) = true
  | [], i, h, hi => by simp at hi
  | v :: l, 0, h, hi => by
    simp only [eachS, Bool.and_eq_true] at h
    exact h.1
  | v :: l, i + 1, h, hi => by
    simp only [eachS, Bool.and_eq_true] at h
    exact eachS_get ts t l i h.2 (by simpa using hi)
theorem recS_get (ts : List AType) : ∀ (fs : List AField) (l : List AVal) (i : Nat), recS ts fs l = true → i < l.length → fitsS ts (fs.getD i (dflt .afield)).typ (l.getD i (dflt .aval)) = true
  | fs, [], i, h, hi => by simp at hi
  | fs, v :: l, 0, h, hi => by
    simp only [recS, Bool.and_eq_true] at h
    cases fs <;> exact h.1
  | fs, v :: l, i + 1, h, hi => by
    simp only [recS, Bool.and_eq_true] at h
    have := recS_get ts fs.tail l i h.2 (by simpa using hi)
    cases fs <;> simpa using this

/-- the rest of a row's bytes -/
noncomputable def tailS (ts : List AType) (kind t : Int) (ks : List (List UInt8)) (l : List AVal) : List UInt8 := cond (kind == 13) (mapV ts t ks l) (allV ts t l)

abbrev ItSt := List AType × Int × List UInt8 × List (List UInt8) × Int × List (List UInt8) × Bool × List UInt8 × Int × List AField × List Int × Int × List UInt8 × List AVal × List (List UInt8) × Int × List UInt8 × List AVal × Int × Int

set_option maxHeartbeats 1000000 in
theorem sh_items_eq (N : Nat) (ts : List AType) (a0 : Int) (a1 : List UInt8) (a2 : List (List UInt8)) (a3 : Int) (a4 : List (List UInt8)) (a5 : Bool) (a6 : List UInt8) (a7 : Int) (a8 : List AField) (a9 : List Int)
    (n : Int) (s : List UInt8) (l : List AVal) (ks : List (List UInt8)) (b : Int) (hl : l.length ≤ 9223372036854775807) (h : szL l + 1000000 ≤ N) (hN : l.length < N) (hi : itemsOK ts a0 a3 ks l = true) :
    sh_aenc_items N ts a0 a1 a2 a3 a4 a5 a6 a7 a8 a9 n s l ks b = some (.str (itemsS ts a0 a3 ks l), []) := by
  simp only [itemsOK, Bool.and_eq_true, Bool.or_eq_true, decide_eq_true_eq, beq_iff_eq] at hi
  obtain ⟨hE, hW, hK⟩ := hi
  have k0 := longS_len 0
  have kl := longS_len (l.length : Int)
  have key : ∀ acc : List UInt8, acc.length ≤ 10 → iterL N (B_aenc_items_0 N) (ts, a0, a1, a2, a3, a4, a5, a6, a7, a8, a9, n, s, l, ks, b, acc, l, (l.length : Int), 0) = some (.str (acc ++ tailS ts a0 a3 ks l ++ longS 0), []) := by
    intro acc hacc
    refine iterL_spec (fun x : ItSt => ∃ (acc : List UInt8) (i : Nat), x = (ts, a0, a1, a2, a3, a4, a5, a6, a7, a8, a9, n, s, l, ks, b, acc, l, (l.length : Int), (i : Int)) ∧ i ≤ l.length ∧ acc.length + (wL (l.drop i) + keyW (ks.drop i)) ≤ 2000000000000000)
      (fun x => l.length - x.2.2.2.2.2.2.2.2.2.2.2.2.2.2.2.2.2.2.2.toNat)
      (fun x => (V.str (x.2.2.2.2.2.2.2.2.2.2.2.2.2.2.2.2.1 ++ tailS ts a0 a3 (ks.drop x.2.2.2.2.2.2.2.2.2.2.2.2.2.2.2.2.2.2.2.toNat) (l.drop x.2.2.2.2.2.2.2.2.2.2.2.2.2.2.2.2.2.2.2.toNat) ++ longS 0), ([] : List AObj))) ?_ N _ ⟨acc, 0, rfl, by omega, ?_⟩ (by simp; omega)
    · rintro rec x ⟨acc, i, rfl, hi, hb⟩ hrec
      simp only [B_aenc_items_0, Int.toNat_natCast]
      rcases Nat.lt_or_ge i l.length with hlt | hge
      · have e6 : IntKind.wrap .i64 ((i : Int) + 1) = ((i + 1 : Nat) : Int) := by rw [wrap_i64_of _ (by omega)]; rfl
        have hz := szL_get l i hlt
        rw [szV_eq] at hz
        have hf := eachS_get ts a3 l i hE hlt
        have hd := drop_getD l i (dflt .aval) hlt
        have hw : wV (l.getD i (dflt .aval)) + wL (l.drop (i + 1)) = wL (l.drop i) := by rw [hd, wL]
        have hw0 := wL_drop l i
        have hlen := len_valueS ts a3 (l.getD i (dflt .aval))
        have hfo : fitOK ts a3 (l.getD i (dflt .aval)) = true := by
          simp only [fitOK, hf, Bool.true_and, decide_eq_true_eq]; omega
        have c1 : decide ((i : Int) < (l.length : Int)) = true := decide_eq_true (by omega)
        have c0 : decide ((0 : Int) ≤ (i : Int)) = true := decide_eq_true (by omega)
        have c3 : decide (1000000 ≤ N - (szL (l.getD i (dflt .aval)).l + 1)) = true := decide_eq_true (by omega)
        simp only [c0, c1, Bool.and_self, chk_t, cond_true, AVal.eta, c3, hfo, Bool.true_and, e6]
        generalize l.getD i (dflt .aval) = v at *
        rcases hK with rfl | ⟨rfl, hkl⟩
        · have c4 : decide (acc.length + (valueS ts a3 v).length ≤ 9223372036854775807) = true := decide_eq_true (by omega)
          have e13 : ((12 : Int) == 13) = false := rfl
          simp only [e13, cond_false, c4, chk_t]
          have hk1 : keyW (ks.drop (i + 1)) ≤ keyW (ks.drop i) := by rw [← List.drop_drop]; exact keyW_drop _ _
          have hr := hrec (ts, 12, a1, a2, a3, a4, a5, a6, a7, a8, a9, n, s, l, ks, b, acc ++ valueS ts a3 v, l, (l.length : Int), ((i + 1 : Nat) : Int)) ⟨_, i + 1, rfl, by omega, by simp only [List.length_append]; omega⟩ (by simp only [Int.toNat_natCast]; omega)
          rw [hr]
          simp only [Int.toNat_natCast, tailS, e13, cond_false, hd, allV, List.append_assoc]
        · have hkl' : ks.length = l.length := by omega
          have hki : i < ks.length := by omega
          have hkd := drop_getD ks i (dflt .str) hki
          have hkw : (ks.getD i (dflt .str)).length + 10 + keyW (ks.drop (i + 1)) = keyW (ks.drop i) := by rw [hkd, keyW]
          have hkw0 := keyW_drop ks i
          have htl := textV_len (ks.getD i (dflt .str))
          have e13 : ((13 : Int) == 13) = true := rfl
          have c5 : decide ((i : Int) < (ks.length : Int)) = true := decide_eq_true (by omega)
          have c6 : decide ((ks.getD i (dflt .str)).length ≤ 1000000000000000) = true := decide_eq_true (by omega)
          obtain ⟨q, hq⟩ : ∃ q : List UInt8, ks.getD i (dflt .str) = q := ⟨_, rfl⟩
          simp only [hq] at hkd hkw htl c6 ⊢
          have c7 : decide (acc.length + (textV q).length ≤ 9223372036854775807) = true := decide_eq_true (by omega)
          have c8 : decide ((acc ++ textV q).length + (valueS ts a3 v).length ≤ 9223372036854775807) = true := decide_eq_true (by simp only [List.length_append]; omega)
          simp only [e13, cond_true, c0, c5, Bool.and_self, c6, c7, c8, chk_t]
          have hr := hrec (ts, 13, a1, a2, a3, a4, a5, a6, a7, a8, a9, n, s, l, ks, b, (acc ++ textV q) ++ valueS ts a3 v, l, (l.length : Int), ((i + 1 : Nat) : Int)) ⟨_, i + 1, rfl, by omega, by simp only [List.length_append]; omega⟩ (by simp only [Int.toNat_natCast]; omega)
          rw [hr]
          simp only [Int.toNat_natCast, tailS, e13, cond_true, hd, hkd, mapV, List.headD_cons, List.tail_cons, List.append_assoc]
      · have : i = l.length := by omega
        subst this
        have c1 : decide ((l.length : Int) < (l.length : Int)) = false := decide_eq_false (by omega)
        have c4 : decide (acc.length + (longS 0).length ≤ 9223372036854775807) = true := decide_eq_true (by omega)
        simp only [c1, cond_false, c4, chk_t]
        have : tailS ts a0 a3 (ks.drop l.length) (l.drop l.length) = [] := by
          rw [List.drop_length]
          unfold tailS
          cases (a0 == 13) <;> simp [allV, mapV]
        rw [this, List.append_nil]
    · simp only [List.drop_zero]; omega
  simp only [sh_aenc_items, sa_aenc_items, itemsS]
  by_cases h0 : (0 : Int) < (l.length : Int)
  · have c1 : decide ((0 : Int) < (l.length : Int)) = true := decide_eq_true h0
    simp only [c1, cond_true]
    exact key _ kl
  · have c1 : decide ((0 : Int) < (l.length : Int)) = false := decide_eq_false h0
    simp only [c1, cond_false]
    exact key [] (by simp)

abbrev VaSt := List AType × Int × List UInt8 × List AVal × List (List UInt8) × Int × List UInt8 × List AField × Int × Int

theorem rec_loop (N : Nat) (ts : List AType) (fs : List AField) (n : Int) (s : List UInt8) (l : List AVal) (ks : List (List UInt8)) (b : Int) (hf : fs.length ≤ 9223372036854775807) (h : szL l + 1000000 ≤ N) (hN : l.length < N)
    (he : l.length = fs.length) (hR : recS ts fs l = true) (hW : wL l ≤ 1000000000000000) :
    iterL N (B_aenc_value_0 N) (ts, n, s, l, ks, b, ([] : List UInt8), fs, (fs.length : Int), 0) = some (.str (recV ts fs l), []) := by
  refine iterL_spec (fun x : VaSt => ∃ (acc : List UInt8) (i : Nat), x = (ts, n, s, l, ks, b, acc, fs, (fs.length : Int), (i : Int)) ∧ i ≤ fs.length ∧ acc.length + wL (l.drop i) ≤ 2000000000000000)
    (fun x => fs.length - x.2.2.2.2.2.2.2.2.2.toNat)
    (fun x => (V.str (x.2.2.2.2.2.2.1 ++ recV ts (fs.drop x.2.2.2.2.2.2.2.2.2.toNat) (l.drop x.2.2.2.2.2.2.2.2.2.toNat)), ([] : List AObj))) ?_ N _ ⟨[], 0, rfl, by omega, by simp only [List.drop_zero, List.length_nil]; omega⟩ (by simp; omega)
  rintro rec x ⟨acc, i, rfl, hi, hb⟩ hrec
  simp only [B_aenc_value_0, Int.toNat_natCast]
  rcases Nat.lt_or_ge i fs.length with hlt | hge
  · have hlt' : i < l.length := by omega
    have e6 : IntKind.wrap .i64 ((i : Int) + 1) = ((i + 1 : Nat) : Int) := by rw [wrap_i64_of _ (by omega)]; rfl
    have hz := szL_get l i hlt'
    rw [szV_eq] at hz
    have hf := recS_get ts fs l i hR hlt'
    have hd := drop_getD l i (dflt .aval) hlt'
    have hdf := drop_getD fs i (dflt .afield) hlt
    have hw : wV (l.getD i (dflt .aval)) + wL (l.drop (i + 1)) = wL (l.drop i) := by rw [hd, wL]
    have hw0 := wL_drop l i
    have hlen := len_valueS ts (fs.getD i (dflt .afield)).typ (l.getD i (dflt .aval))
    have hfo : fitOK ts (fs.getD i (dflt .afield)).typ (l.getD i (dflt .aval)) = true := by
      simp only [fitOK, hf, Bool.true_and, decide_eq_true_eq]; omega
    have c1 : decide ((i : Int) < (fs.length : Int)) = true := decide_eq_true (by omega)
    have c0 : decide ((0 : Int) ≤ (i : Int)) = true := decide_eq_true (by omega)
    have c2 : decide ((i : Int) < (l.length : Int)) = true := decide_eq_true (by omega)
    have c3 : decide (1000000 ≤ N - (szL (l.getD i (dflt .aval)).l + 1)) = true := decide_eq_true (by omega)
    have c4 : decide (acc.length + (valueS ts (fs.getD i (dflt .afield)).typ (l.getD i (dflt .aval))).length ≤ 9223372036854775807) = true := decide_eq_true (by omega)
    simp only [c0, c1, c2, Bool.and_self, chk_t, cond_true, AVal.eta, c3, hfo, Bool.true_and, e6, c4]
    have hr := hrec (ts, n, s, l, ks, b, acc ++ valueS ts (fs.getD i (dflt .afield)).typ (l.getD i (dflt .aval)), fs, (fs.length : Int), ((i + 1 : Nat) : Int)) ⟨_, i + 1, rfl, by omega, by simp only [List.length_append]; omega⟩ (by simp only [Int.toNat_natCast]; omega)
    rw [hr]
    simp only [Int.toNat_natCast, hd, hdf, recV, List.headD_cons, List.tail_cons, List.append_assoc]
  · have : i = fs.length := by omega
    subst this
    have c1 : decide ((fs.length : Int) < (fs.length : Int)) = false := decide_eq_false (by omega)
    simp only [c1, cond_false]
    rw [List.drop_length, ← he, List.drop_length, recV, List.append_nil]
end Go.Proofs.Ytdpajabhmmmjoaa
