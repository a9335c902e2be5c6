/-
  Code points as the language has them, and as the program has them.
-/
import Derived.Test.YtdpajabhmmmjoaaGlSpec
import Derived.Test.YtdpajabhmmmjoaaAmTac
namespace Go.Proofs.Ytdpajabhmmmjoaa
open Go.AM
set_option autoImplicit false
set_option linter.unusedSimpArgs false
set_option linter.unusedVariables false

theorem u8_eq (a : UInt8) (n : Nat) (h : n < 256) : (UInt8.ofNat n = a) ↔ (n = a.toNat) := by
  constructor
  · rintro rfl; simp; omega
  · intro h; subst h; simp

theorem gly2 (a b : UInt8) (v : Nat) (hv : v < 32) (ha : a.toNat = 192 + v) :
    gly (v * 64 + b.toNat % 64) = [a, b] ↔ (128 ≤ b.toNat ∧ b.toNat ≤ 191 ∧ 128 ≤ v * 64 + b.toNat % 64) := by
  have hb := UInt8.toNat_lt b
  unfold gly
  by_cases h1 : v * 64 + b.toNat % 64 < 128
  · rw [if_pos h1]
    constructor
    · intro h; simp at h
    · omega
  · rw [if_neg h1, if_pos (by omega)]
    simp only [List.cons.injEq, and_true]
    rw [u8_eq _ _ (by omega), u8_eq _ _ (by omega)]
    omega

theorem gly3 (a b c : UInt8) (v : Nat) (hv : v < 16) (ha : a.toNat = 224 + v) (r : Nat) (hr : r = (v * 64 + b.toNat % 64) * 64 + c.toNat % 64) :
    gly r = [a, b, c] ↔ (128 ≤ b.toNat ∧ b.toNat ≤ 191 ∧ 128 ≤ c.toNat ∧ c.toNat ≤ 191 ∧ 2048 ≤ r ∧ ¬ (55296 ≤ r ∧ r ≤ 57343)) := by
  have hb := UInt8.toNat_lt b
  have hc := UInt8.toNat_lt c
  unfold gly
  by_cases h1 : r < 128
  · rw [if_pos h1]
    constructor
    · intro h; simp at h
    · omega
  by_cases h2 : r < 2048
  · rw [if_neg h1, if_pos h2]
    constructor
    · intro h; simp at h
    · omega
  by_cases h3 : (55296 ≤ r ∧ r < 57344) ∨ 1114111 < r
  · rw [if_neg h1, if_neg h2, if_pos h3]
    constructor
    · intro h
      simp only [List.cons.injEq, and_true] at h
      obtain ⟨rfl, rfl, rfl⟩ := h
      simp at ha hr
      omega
    · omega
  · rw [if_neg h1, if_neg h2, if_neg h3, if_pos (by omega)]
    simp only [List.cons.injEq, and_true]
    rw [u8_eq _ _ (by omega), u8_eq _ _ (by omega), u8_eq _ _ (by omega)]
    omega

theorem gly4 (a b c d : UInt8) (v : Nat) (hv : v < 8) (ha : a.toNat = 240 + v) (r : Nat) (hr : r = ((v * 64 + b.toNat % 64) * 64 + c.toNat % 64) * 64 + d.toNat % 64) :
    gly r = [a, b, c, d] ↔ (128 ≤ b.toNat ∧ b.toNat ≤ 191 ∧ 128 ≤ c.toNat ∧ c.toNat ≤ 191 ∧ 128 ≤ d.toNat ∧ d.toNat ≤ 191 ∧ 65536 ≤ r ∧ r ≤ 1114111) := by
  have hb := UInt8.toNat_lt b
  have hc := UInt8.toNat_lt c
  have hd := UInt8.toNat_lt d
  unfold gly
  by_cases h1 : r < 128
  · rw [if_pos h1]
    constructor
    · intro h; simp at h
    · omega
  by_cases h2 : r < 2048
  · rw [if_neg h1, if_pos h2]
    constructor
    · intro h; simp at h
    · omega
  by_cases h3 : (55296 ≤ r ∧ r < 57344) ∨ 1114111 < r
  · rw [if_neg h1, if_neg h2, if_pos h3]
    constructor
    · intro h; simp at h
    · omega
  by_cases h4 : r < 65536
  · rw [if_neg h1, if_neg h2, if_neg h3, if_pos h4]
    constructor
    · intro h; simp at h
    · omega
  · rw [if_neg h1, if_neg h2, if_neg h3, if_neg h4]
    simp only [List.cons.injEq, and_true]
    rw [u8_eq _ _ (by omega), u8_eq _ _ (by omega), u8_eq _ _ (by omega), u8_eq _ _ (by omega)]
    omega


set_option maxRecDepth 100000 in
theorem utf8_gly (r : Nat) : utf8 (r : Int) = gly r := by
  unfold utf8 Utf8.encode gly Utf8.valid Utf8.runeError
  by_cases h : (55296 ≤ r ∧ r < 57344) ∨ 1114111 < r
  · have e : ((decide (0 ≤ (r : Int)) && decide ((r : Int) < 55296)) || (decide (57344 ≤ (r : Int)) && decide ((r : Int) ≤ 1114111))) = false := by
      rcases h with h | h
      · rw [df (show ¬ (r : Int) < 55296 by omega), df (show ¬ 57344 ≤ (r : Int) by omega)]; simp
      · rw [df (show ¬ (r : Int) < 55296 by omega), df (show ¬ (r : Int) ≤ 1114111 by omega)]; simp
    rw [if_neg (show ¬ r < 128 by omega), if_neg (show ¬ r < 2048 by omega), if_pos h]
    simp only [e, Bool.false_eq_true, if_false]
    rfl
  · have e : ((decide (0 ≤ (r : Int)) && decide ((r : Int) < 55296)) || (decide (57344 ≤ (r : Int)) && decide ((r : Int) ≤ 1114111))) = true := by
      by_cases h2 : r < 55296
      · rw [dt (show 0 ≤ (r : Int) by omega), dt (show (r : Int) < 55296 by omega)]; rfl
      · rw [dt (show 57344 ≤ (r : Int) by omega), dt (show (r : Int) ≤ 1114111 by omega)]; simp
    simp only [e, if_true, Int.toNat_natCast]
    rw [if_neg h]
    by_cases h1 : r < 128
    · rw [if_pos h1, if_pos h1]
    · rw [if_neg h1, if_neg h1]
      by_cases h2 : r < 2048
      · rw [if_pos h2, if_pos h2]
      · rw [if_neg h2, if_neg h2]
        by_cases h3 : r < 65536
        · rw [if_pos h3, if_pos h3]
        · rw [if_neg h3, if_neg h3]

theorem get_list (l : List UInt8) (k : Nat) : (⟨l.toArray⟩ : ByteArray).get! k = l.getD k 0 := by
  show l.toArray[k]! = _
  simp [List.getD]
  rfl

theorem decode_drop (l : List UInt8) (i : Nat) : Utf8.decode ⟨l.toArray⟩ i = Utf8.decode ⟨(l.drop i).toArray⟩ 0 := by
  have h1 : ∀ k, (⟨l.toArray⟩ : ByteArray).get! (i + k) = (⟨(l.drop i).toArray⟩ : ByteArray).get! (0 + k) := by
    intro k
    rw [get_list, get_list]
    simp [List.getD, List.getElem?_drop]
  have h2 : ∀ k, decide (i + k < (⟨l.toArray⟩ : ByteArray).size) = decide (0 + k < (⟨(l.drop i).toArray⟩ : ByteArray).size) := by
    intro k
    apply decide_eq_decide.2
    show i + k < l.toArray.size ↔ 0 + k < (l.drop i).toArray.size
    simp
    omega
  simp only [Utf8.decode, h1, h2]

theorem multi_some (n v : Nat) (s : List UInt8) (h : n ≤ s.length) : multi n v s = if gly ((s.take n).tail.foldl (fun a b => a * 64 + b.toNat % 64) v) = s.take n then ((s.take n).tail.foldl (fun a b => a * 64 + b.toNat % 64) v, n) else (0, 0) := by
  unfold multi
  rw [if_neg (by omega)]

theorem point_1 (c : UInt8) (t : List UInt8) (h : c.toNat < 128) : pointN (c :: t) = (c.toNat, 1) := by
  unfold pointN; dsimp only; rw [if_pos h]
theorem point_m2 (c : UInt8) (t : List UInt8) (h : c.toNat / 32 = 6) : pointN (c :: t) = multi 2 (c.toNat % 32) (c :: t) := by
  unfold pointN; dsimp only; rw [if_neg (by omega), if_pos h]
theorem point_m3 (c : UInt8) (t : List UInt8) (h : c.toNat / 16 = 14) : pointN (c :: t) = multi 3 (c.toNat % 16) (c :: t) := by
  unfold pointN; dsimp only; rw [if_neg (by omega), if_neg (by omega), if_pos h]
theorem point_m4 (c : UInt8) (t : List UInt8) (h : c.toNat / 8 = 30) : pointN (c :: t) = multi 4 (c.toNat % 8) (c :: t) := by
  unfold pointN; dsimp only; rw [if_neg (by omega), if_neg (by omega), if_neg (by omega), if_pos h]
theorem point_0 (c : UInt8) (t : List UInt8) (h1 : ¬ c.toNat < 128) (h2 : ¬ c.toNat / 32 = 6) (h3 : ¬ c.toNat / 16 = 14) (h4 : ¬ c.toNat / 8 = 30) : pointN (c :: t) = (0, 0) := by
  unfold pointN; dsimp only; rw [if_neg h1, if_neg h2, if_neg h3, if_neg h4]

set_option maxHeartbeats 2000000 in
theorem decode_point (c : UInt8) (t : List UInt8) : Utf8.decode ⟨(c :: t).toArray⟩ 0 = if (pointN (c :: t)).2 = 0 then (65533, 1) else pointN (c :: t) := by
  have hc := UInt8.toNat_lt c
  have nb : ∀ a b : Nat, (a == b) = decide (a = b) := fun _ _ => rfl
  have hs : (⟨(c :: t).toArray⟩ : ByteArray).size = t.length + 1 := by show (c :: t).toArray.size = _; simp
  simp only [Utf8.decode, Utf8.runeError, get_list, hs, nb, Nat.zero_add, List.getD_cons_zero, List.getD_cons_succ]
  by_cases h1 : c.toNat < 128
  · rw [point_1 c t h1]
    simp (disch := omega) only [it, iF, dt, df, if_true, if_false]
  by_cases h2 : c.toNat / 32 = 6
  · match t with
    | [] =>
      rw [point_m2 c _ h2]
      simp (disch := omega) only [it, iF, dt, df, decide_true, decide_false, Bool.and_self, Bool.or_true, Bool.true_or, Bool.or_false, Bool.false_or, Bool.true_and, Bool.and_true, Bool.false_and, Bool.and_false, Bool.false_eq_true, if_true, if_false, h2, List.length_nil, Bool.and_false, Bool.false_and, Bool.false_eq_true, multi, List.length_cons, if_true, if_false]
    | b :: t =>
      have hg := gly2 c b (c.toNat % 32) (by omega) (by omega)
      have hb := UInt8.toNat_lt b
      rw [point_m2 c _ h2, multi_some 2 _ _ (by simp)]
      simp only [List.take_succ_cons, List.take_zero, List.tail_cons, List.foldl_cons, List.foldl_nil, hg, List.getD_cons_zero, List.length_cons]
      by_cases g1 : b.toNat / 64 = 2
      · by_cases g2 : 128 ≤ c.toNat % 32 * 64 + b.toNat % 64
        · simp (disch := omega) only [it, iF, dt, df, decide_true, decide_false, Bool.and_self, Bool.or_true, Bool.true_or, Bool.or_false, Bool.false_or, Bool.true_and, Bool.and_true, Bool.false_and, Bool.and_false, Bool.false_eq_true, if_true, if_false, h2, g1, Bool.and_true, Bool.true_and, if_true, if_false]
        · simp (disch := omega) only [it, iF, dt, df, decide_true, decide_false, Bool.and_self, Bool.or_true, Bool.true_or, Bool.or_false, Bool.false_or, Bool.true_and, Bool.and_true, Bool.false_and, Bool.and_false, Bool.false_eq_true, if_true, if_false, h2, g1, Bool.and_true, Bool.true_and, if_true, if_false]
      · simp (disch := omega) only [it, iF, dt, df, decide_true, decide_false, Bool.and_self, Bool.or_true, Bool.true_or, Bool.or_false, Bool.false_or, Bool.true_and, Bool.and_true, Bool.false_and, Bool.and_false, Bool.false_eq_true, if_true, if_false, h2, Bool.and_true, Bool.true_and, Bool.and_false, Bool.false_and, Bool.false_eq_true, if_true, if_false]
  by_cases h3 : c.toNat / 16 = 14
  · match t with
    | [] =>
      rw [point_m3 c _ h3]
      simp (disch := omega) only [it, iF, dt, df, decide_true, decide_false, Bool.and_self, Bool.or_true, Bool.true_or, Bool.or_false, Bool.false_or, Bool.true_and, Bool.and_true, Bool.false_and, Bool.and_false, Bool.false_eq_true, if_true, if_false, h3, List.length_nil, Bool.and_false, Bool.false_and, Bool.false_eq_true, multi, List.length_cons, if_true, if_false]
    | [b] =>
      rw [point_m3 c _ h3]
      simp (disch := omega) only [it, iF, dt, df, decide_true, decide_false, Bool.and_self, Bool.or_true, Bool.true_or, Bool.or_false, Bool.false_or, Bool.true_and, Bool.and_true, Bool.false_and, Bool.and_false, Bool.false_eq_true, if_true, if_false, h3, List.length_nil, Bool.and_false, Bool.false_and, Bool.false_eq_true, multi, List.length_cons, if_true, if_false]
    | b :: d :: t =>
      have hg := gly3 c b d (c.toNat % 16) (by omega) (by omega) _ rfl
      have hb := UInt8.toNat_lt b
      have hd := UInt8.toNat_lt d
      have er : c.toNat % 16 * 4096 + b.toNat % 64 * 64 + d.toNat % 64 = (c.toNat % 16 * 64 + b.toNat % 64) * 64 + d.toNat % 64 := by omega
      rw [point_m3 c _ h3, multi_some 3 _ _ (by simp)]
      simp only [List.take_succ_cons, List.take_zero, List.tail_cons, List.foldl_cons, List.foldl_nil, hg, List.getD_cons_zero, List.getD_cons_succ, List.length_cons, er, Utf8.valid]
      have hr : (c.toNat % 16 * 64 + b.toNat % 64) * 64 + d.toNat % 64 < 65536 := by omega
      generalize (c.toNat % 16 * 64 + b.toNat % 64) * 64 + d.toNat % 64 = r at hr
      by_cases g1 : b.toNat / 64 = 2
      · by_cases g2 : d.toNat / 64 = 2
        · by_cases g3 : r < 2048
          · simp (disch := omega) only [it, iF, dt, df, decide_true, decide_false, Bool.and_self, Bool.or_true, Bool.true_or, Bool.or_false, Bool.false_or, Bool.true_and, Bool.and_true, Bool.false_and, Bool.and_false, Bool.false_eq_true, if_true, if_false, h3, g1, g2, Bool.and_true, Bool.true_and, Bool.and_false, Bool.false_and, Bool.false_eq_true, if_true, if_false]
          by_cases g4 : r < 55296
          · simp (disch := omega) only [it, iF, dt, df, decide_true, decide_false, Bool.and_self, Bool.or_true, Bool.true_or, Bool.or_false, Bool.false_or, Bool.true_and, Bool.and_true, Bool.false_and, Bool.and_false, Bool.false_eq_true, if_true, if_false, h3, g1, g2, Bool.and_true, Bool.true_and, Bool.and_false, Bool.false_and, Bool.true_or, Bool.or_true, Bool.or_false, Bool.false_or, Bool.false_eq_true, if_true, if_false]
          by_cases g5 : r ≤ 57343
          · simp (disch := omega) only [it, iF, dt, df, decide_true, decide_false, Bool.and_self, Bool.or_true, Bool.true_or, Bool.or_false, Bool.false_or, Bool.true_and, Bool.and_true, Bool.false_and, Bool.and_false, Bool.false_eq_true, if_true, if_false, h3, g1, g2, Bool.and_true, Bool.true_and, Bool.and_false, Bool.false_and, Bool.true_or, Bool.or_true, Bool.or_false, Bool.false_or, Bool.false_eq_true, if_true, if_false]
          · simp (disch := omega) only [it, iF, dt, df, decide_true, decide_false, Bool.and_self, Bool.or_true, Bool.true_or, Bool.or_false, Bool.false_or, Bool.true_and, Bool.and_true, Bool.false_and, Bool.and_false, Bool.false_eq_true, if_true, if_false, h3, g1, g2, Bool.and_true, Bool.true_and, Bool.and_false, Bool.false_and, Bool.true_or, Bool.or_true, Bool.or_false, Bool.false_or, Bool.false_eq_true, if_true, if_false]
        · simp (disch := omega) only [it, iF, dt, df, decide_true, decide_false, Bool.and_self, Bool.or_true, Bool.true_or, Bool.or_false, Bool.false_or, Bool.true_and, Bool.and_true, Bool.false_and, Bool.and_false, Bool.false_eq_true, if_true, if_false, h3, g1, Bool.and_true, Bool.true_and, Bool.and_false, Bool.false_and, Bool.false_eq_true, if_true, if_false]
      · simp (disch := omega) only [it, iF, dt, df, decide_true, decide_false, Bool.and_self, Bool.or_true, Bool.true_or, Bool.or_false, Bool.false_or, Bool.true_and, Bool.and_true, Bool.false_and, Bool.and_false, Bool.false_eq_true, if_true, if_false, h3, Bool.and_true, Bool.true_and, Bool.and_false, Bool.false_and, Bool.false_eq_true, if_true, if_false]
  by_cases h4 : c.toNat / 8 = 30
  · match t with
    | [] =>
      rw [point_m4 c _ h4]
      simp (disch := omega) only [it, iF, dt, df, decide_true, decide_false, Bool.and_self, Bool.or_true, Bool.true_or, Bool.or_false, Bool.false_or, Bool.true_and, Bool.and_true, Bool.false_and, Bool.and_false, Bool.false_eq_true, if_true, if_false, h4, List.length_nil, Bool.and_false, Bool.false_and, Bool.false_eq_true, multi, List.length_cons, if_true, if_false]
    | [b] =>
      rw [point_m4 c _ h4]
      simp (disch := omega) only [it, iF, dt, df, decide_true, decide_false, Bool.and_self, Bool.or_true, Bool.true_or, Bool.or_false, Bool.false_or, Bool.true_and, Bool.and_true, Bool.false_and, Bool.and_false, Bool.false_eq_true, if_true, if_false, h4, List.length_nil, Bool.and_false, Bool.false_and, Bool.false_eq_true, multi, List.length_cons, if_true, if_false]
    | [b, d] =>
      rw [point_m4 c _ h4]
      simp (disch := omega) only [it, iF, dt, df, decide_true, decide_false, Bool.and_self, Bool.or_true, Bool.true_or, Bool.or_false, Bool.false_or, Bool.true_and, Bool.and_true, Bool.false_and, Bool.and_false, Bool.false_eq_true, if_true, if_false, h4, List.length_nil, Bool.and_false, Bool.false_and, Bool.false_eq_true, multi, List.length_cons, if_true, if_false]
    | b :: d :: e :: t =>
      have hg := gly4 c b d e (c.toNat % 8) (by omega) (by omega) _ rfl
      have hb := UInt8.toNat_lt b
      have hd := UInt8.toNat_lt d
      have he := UInt8.toNat_lt e
      have er : c.toNat % 8 * 262144 + b.toNat % 64 * 4096 + d.toNat % 64 * 64 + e.toNat % 64 = ((c.toNat % 8 * 64 + b.toNat % 64) * 64 + d.toNat % 64) * 64 + e.toNat % 64 := by omega
      rw [point_m4 c _ h4, multi_some 4 _ _ (by simp)]
      simp only [List.take_succ_cons, List.take_zero, List.tail_cons, List.foldl_cons, List.foldl_nil, hg, List.getD_cons_zero, List.getD_cons_succ, List.length_cons, er, Utf8.valid]
      have hr : ((c.toNat % 8 * 64 + b.toNat % 64) * 64 + d.toNat % 64) * 64 + e.toNat % 64 < 2097152 := by omega
      generalize ((c.toNat % 8 * 64 + b.toNat % 64) * 64 + d.toNat % 64) * 64 + e.toNat % 64 = r at hr
      by_cases g1 : b.toNat / 64 = 2
      · by_cases g2 : d.toNat / 64 = 2
        · by_cases g6 : e.toNat / 64 = 2
          · by_cases g3 : r < 65536
            · simp (disch := omega) only [it, iF, dt, df, decide_true, decide_false, Bool.and_self, Bool.or_true, Bool.true_or, Bool.or_false, Bool.false_or, Bool.true_and, Bool.and_true, Bool.false_and, Bool.and_false, Bool.false_eq_true, if_true, if_false, h4, g1, g2, g6, Bool.and_true, Bool.true_and, Bool.and_false, Bool.false_and, Bool.false_eq_true, if_true, if_false]
            by_cases g5 : r ≤ 1114111
            · simp (disch := omega) only [it, iF, dt, df, decide_true, decide_false, Bool.and_self, Bool.or_true, Bool.true_or, Bool.or_false, Bool.false_or, Bool.true_and, Bool.and_true, Bool.false_and, Bool.and_false, Bool.false_eq_true, if_true, if_false, h4, g1, g2, g6, Bool.and_true, Bool.true_and, Bool.and_false, Bool.false_and, Bool.true_or, Bool.or_true, Bool.or_false, Bool.false_or, Bool.false_eq_true, if_true, if_false]
            · simp (disch := omega) only [it, iF, dt, df, decide_true, decide_false, Bool.and_self, Bool.or_true, Bool.true_or, Bool.or_false, Bool.false_or, Bool.true_and, Bool.and_true, Bool.false_and, Bool.and_false, Bool.false_eq_true, if_true, if_false, h4, g1, g2, g6, Bool.and_true, Bool.true_and, Bool.and_false, Bool.false_and, Bool.true_or, Bool.or_true, Bool.or_false, Bool.false_or, Bool.false_eq_true, if_true, if_false]
          · simp (disch := omega) only [it, iF, dt, df, decide_true, decide_false, Bool.and_self, Bool.or_true, Bool.true_or, Bool.or_false, Bool.false_or, Bool.true_and, Bool.and_true, Bool.false_and, Bool.and_false, Bool.false_eq_true, if_true, if_false, h4, g1, g2, Bool.and_true, Bool.true_and, Bool.and_false, Bool.false_and, Bool.false_eq_true, if_true, if_false]
        · simp (disch := omega) only [it, iF, dt, df, decide_true, decide_false, Bool.and_self, Bool.or_true, Bool.true_or, Bool.or_false, Bool.false_or, Bool.true_and, Bool.and_true, Bool.false_and, Bool.and_false, Bool.false_eq_true, if_true, if_false, h4, g1, Bool.and_true, Bool.true_and, Bool.and_false, Bool.false_and, Bool.false_eq_true, if_true, if_false]
      · simp (disch := omega) only [it, iF, dt, df, decide_true, decide_false, Bool.and_self, Bool.or_true, Bool.true_or, Bool.or_false, Bool.false_or, Bool.true_and, Bool.and_true, Bool.false_and, Bool.and_false, Bool.false_eq_true, if_true, if_false, h4, Bool.and_true, Bool.true_and, Bool.and_false, Bool.false_and, Bool.false_eq_true, if_true, if_false]
  · rw [point_0 c t h1 h2 h3 h4]
    simp (disch := omega) only [it, iF, dt, df, decide_true, decide_false, Bool.and_self, Bool.or_true, Bool.true_or, Bool.or_false, Bool.false_or, Bool.true_and, Bool.and_true, Bool.false_and, Bool.and_false, Bool.false_eq_true, if_true, if_false, Bool.and_true, Bool.true_and, Bool.and_false, Bool.false_and, Bool.false_eq_true, if_true, if_false]

theorem point_gly (c : UInt8) (t : List UInt8) (h : ¬ (pointN (c :: t)).2 = 0) : gly (pointN (c :: t)).1 = (c :: t).take (pointN (c :: t)).2 := by
  have mm : ∀ n v : Nat, ¬ (multi n v (c :: t)).2 = 0 → gly (multi n v (c :: t)).1 = (c :: t).take (multi n v (c :: t)).2 := by
    intro n v h
    unfold multi at h ⊢
    split
    · rename_i h1
      rw [if_pos h1] at h
      exact absurd rfl h
    · rename_i h1
      rw [if_neg h1] at h
      dsimp only at h ⊢
      split
      · rename_i h2; exact h2
      · rename_i h2
        rw [if_neg h2] at h
        exact absurd rfl h
  unfold pointN at h ⊢
  dsimp only at h ⊢
  split
  · rename_i h1
    dsimp only
    unfold gly
    rw [if_pos h1]
    simp
  · rename_i h1
    rw [if_neg h1] at h
    split
    · rename_i h2; rw [if_pos h2] at h; exact mm _ _ h
    · rename_i h2
      rw [if_neg h2] at h
      split
      · rename_i h3; rw [if_pos h3] at h; exact mm _ _ h
      · rename_i h3
        rw [if_neg h3] at h
        split
        · rename_i h4; rw [if_pos h4] at h; exact mm _ _ h
        · rename_i h4; rw [if_neg h4] at h; exact absurd rfl h
theorem multi_le (n v : Nat) (s : List UInt8) : (multi n v s).2 ≤ s.length := by
  unfold multi
  split
  · simp
  · dsimp only
    split
    · dsimp only; omega
    · simp

theorem point_le (s : List UInt8) : (pointN s).2 ≤ s.length := by
  unfold pointN
  split
  · simp
  · rename_i c t
    split
    · simp
    · split
      · exact multi_le _ _ _
      · split
        · exact multi_le _ _ _
        · split
          · exact multi_le _ _ _
          · simp

theorem validN_more : ∀ (k : Nat) (s : List UInt8), s.length ≤ k → validN k s = validN s.length s
  | k, [], h => by cases k <;> rfl
  | 0, _ :: _, h => by simp at h
  | k + 1, c :: s, h => by
    have h1 : s.length + 1 ≤ k + 1 := h
    show (if (pointN (c :: s)).2 = 0 then false else validN k ((c :: s).drop (pointN (c :: s)).2)) = (if (pointN (c :: s)).2 = 0 then false else validN s.length ((c :: s).drop (pointN (c :: s)).2))
    split
    · rfl
    · rename_i hp
      have hl : ((c :: s).drop (pointN (c :: s)).2).length ≤ s.length := by simp; omega
      rw [validN_more k _ (by omega)]
      by_cases hk : s.length = k
      · rw [hk]; exact (validN_more k _ (by omega)).symm
      · exact (validN_more s.length _ hl).symm
termination_by k => k
decreasing_by all_goals (try simp_wf); all_goals omega

theorem validG_cons (c : UInt8) (s : List UInt8) : validG (c :: s) = if (pointN (c :: s)).2 = 0 then false else validG ((c :: s).drop (pointN (c :: s)).2) := by
  show (if (pointN (c :: s)).2 = 0 then false else validN s.length ((c :: s).drop (pointN (c :: s)).2)) = _
  split
  · rfl
  · exact validN_more _ _ (by simp; omega)

/-- a text's code points, a list at a time -/
def runesL : Nat → List UInt8 → List Int
  | 0, _ => []
  | _ + 1, [] => []
  | k + 1, c :: t => ((Utf8.decode ⟨(c :: t).toArray⟩ 0).1 : Int) :: runesL k ((c :: t).drop (Utf8.decode ⟨(c :: t).toArray⟩ 0).2)

theorem runesAux_eq (l : List UInt8) : ∀ (b i : Nat), runesAux ⟨l.toArray⟩ b i = runesL b (l.drop i)
  | 0, i => rfl
  | b + 1, i => by
    have hs : (⟨l.toArray⟩ : ByteArray).size = l.length := by show l.toArray.size = _; simp
    simp only [runesAux, hs]
    by_cases h : i < l.length
    · rw [if_pos h, decode_drop l i, runesAux_eq l b]
      obtain ⟨c, t, hc⟩ : ∃ c t, l.drop i = c :: t := ⟨_, _, List.drop_eq_getElem_cons h⟩
      rw [← List.drop_drop, hc]
      rfl
    · rw [if_neg h, List.drop_eq_nil_of_le (by omega)]
      rfl

theorem utf8s_cons (n : Int) (ns : List Int) : utf8s (n :: ns) = utf8 n ++ utf8s ns := by simp [utf8s]

theorem runes_valid : ∀ (k : Nat) (l : List UInt8), l.length ≤ k → (validN k l = true → utf8s (runesL k l) = l) ∧ l.length ≤ (utf8s (runesL k l)).length ∧ (validN k l = false → l.length < (utf8s (runesL k l)).length)
  | 0, [], h => ⟨fun _ => rfl, by simp, by intro h; cases h⟩
  | 0, _ :: _, h => by simp at h
  | k + 1, [], h => ⟨fun _ => rfl, by simp, by intro h; cases h⟩
  | k + 1, c :: t, h => by
    have hcl : (c :: t).length = t.length + 1 := rfl
    have hd := decode_point c t
    have hv : validN (k + 1) (c :: t) = if (pointN (c :: t)).2 = 0 then false else validN k ((c :: t).drop (pointN (c :: t)).2) := rfl
    have hr : runesL (k + 1) (c :: t) = ((Utf8.decode ⟨(c :: t).toArray⟩ 0).1 : Int) :: runesL k ((c :: t).drop (Utf8.decode ⟨(c :: t).toArray⟩ 0).2) := rfl
    rw [hr, hv, hd, utf8s_cons]
    by_cases hp : (pointN (c :: t)).2 = 0
    · rw [if_pos hp, if_pos hp]
      have ih := runes_valid k ((c :: t).drop 1) (by simp only [List.length_drop]; omega)
      have hl : ((c :: t).drop 1).length = t.length := rfl
      have h3 : (utf8 ((65533 : Nat) : Int)).length = 3 := by rw [utf8_gly]; rfl
      dsimp only
      rw [List.length_append, h3]
      exact ⟨(by intro h; cases h), by omega, (by intro _; omega)⟩
    · rw [if_neg hp, if_neg hp]
      have hn := point_le (c :: t)
      have ih := runes_valid k ((c :: t).drop (pointN (c :: t)).2) (by simp only [List.length_drop]; omega)
      simp only [List.length_drop] at ih
      rw [utf8_gly, point_gly c t hp, List.length_append, List.length_take]
      refine ⟨fun h => ?_, by omega, fun h => ?_⟩
      · rw [ih.1 h, List.take_append_drop]
      · have := ih.2.2 h
        omega

theorem runes_same (s : List UInt8) : decide (utf8s (runesOf s) = s) = validG s := by
  have e : runesOf s = runesL s.length s := by unfold runesOf; rw [runesAux_eq, List.drop_zero]
  rw [e]
  have h := runes_valid s.length s (Nat.le_refl _)
  cases hv : validG s with
  | true => exact decide_eq_true (h.1 hv)
  | false =>
    apply decide_eq_false
    intro hc
    have := h.2.2 hv
    rw [hc] at this
    omega

theorem runesL_len : ∀ (k : Nat) (l : List UInt8), (runesL k l).length ≤ k
  | 0, l => by simp [runesL]
  | k + 1, [] => by simp [runesL]
  | k + 1, c :: t => by
    have := runesL_len k ((c :: t).drop (Utf8.decode ⟨(c :: t).toArray⟩ 0).2)
    simp only [runesL, List.length_cons]
    omega

theorem runesOf_len (s : List UInt8) : (runesOf s).length ≤ s.length := by
  have e : runesOf s = runesL s.length s := by unfold runesOf; rw [runesAux_eq, List.drop_zero]
  rw [e]
  exact runesL_len _ _
end Go.Proofs.Ytdpajabhmmmjoaa
