/-
  What is quoted is unquoted; code points told by units.
-/
import Derived.Test.YtmiclamhiohemaaGlRef3
namespace Go.Proofs.Ytmiclamhiohemaa
open Go.AM
set_option autoImplicit false
set_option linter.unusedSimpArgs false
set_option linter.unusedVariables false

theorem unq_esc (f : Nat) (s : List UInt8) (i : Nat) (o t : List UInt8) (k : Nat) (hi : i < s.length) (h : s.getD i 0 = 92) (hr : rescR (s.drop i) = some (t, k)) : unqN (f + 1) s i o = unqN f s ((i + k : Nat) : Int) (o ++ t) := by
  obtain ⟨he, hk⟩ := (esc_resc s i hi h).1 t k hr
  simp only [unqN, Int.toNat_natCast, h, he]
  rw [if_neg (by omega), if_neg (by decide), if_neg (by decide), if_pos trivial]
  rfl

theorem unq_lit (f : Nat) (s : List UInt8) (i : Nat) (o : List UInt8) (x : UInt8) (hi : i < s.length) (h : s.getD i 0 = x) (h1 : ¬ x = 34) (h2 : ¬ x = 92) (h3 : 32 ≤ x.toNat) : unqN (f + 1) s i o = unqN f s ((i + 1 : Nat) : Int) (o ++ [x]) := by
  simp only [unqN, Int.toNat_natCast, h]
  rw [if_neg (by omega), if_neg h1, if_neg (by omega), if_neg h2]
  rfl

theorem unq_end (f : Nat) (s : List UInt8) (i : Nat) (o : List UInt8) (hi : i < s.length) (h : s.getD i 0 = 34) : unqN (f + 1) s i o = if validG o then some (o, (i : Int) + 1) else none := by
  simp only [unqN, Int.toNat_natCast, h]
  rw [if_neg (by omega), if_pos trivial]

def tabQ (n : Nat) : Bool :=
  let q := quoteB (UInt8.ofNat n)
  (if q.length = 2 then decide (q = [92, q.getD 1 0]) && decide (meantB (q.getD 1 0).toNat = some (UInt8.ofNat n))
  else if q.length = 6 then decide (q = [92, 117, 48, 48, q.getD 4 0, q.getD 5 0]) && decide (digitN (q.getD 4 0).toNat = some (n / 16)) && decide (digitN (q.getD 5 0).toNat = some (n % 16)) && decide (n < 32)
  else decide (q = [UInt8.ofNat n]) && decide (¬ n = 34) && decide (¬ n = 92) && decide (32 ≤ n)) && q.all fun b => decide (32 ≤ b.toNat)
theorem tabQ_ok : (List.range 256).all tabQ = true := by kernel_rfl

theorem resc_two (x c : UInt8) (post : List UInt8) (h : meantB x.toNat = some c) : rescR (92 :: x :: post) = some ([c], 2) := by
  unfold rescR
  rw [if_neg (by simp)]
  simp only [List.getD_cons_succ, List.getD_cons_zero, h]

theorem runit_six (a b c d : UInt8) (post : List UInt8) (w x y z : Nat) (h1 : digitN a.toNat = some w) (h2 : digitN b.toNat = some x) (h3 : digitN c.toNat = some y) (h4 : digitN d.toNat = some z) :
    runitN (92 :: 117 :: a :: b :: c :: d :: post) = some (((w * 16 + x) * 16 + y) * 16 + z) := by
  unfold runitN
  rw [if_neg (by simp)]
  simp only [List.getD_cons_succ, List.getD_cons_zero, h1, h2, h3, h4]

theorem resc_six (s : List UInt8) (u : Nat) (h1 : s.getD 1 0 = 117) (h : runitN s = some u) (hu : u < 55296 ∨ 57343 < u) : rescR s = some (gly u, 6) := by
  have hl := runit_len s u h
  unfold rescR
  rw [if_neg (by omega), h1]
  have : meantB (117 : UInt8).toNat = none := rfl
  simp only [this, h]
  rw [if_neg (by omega), if_pos hu]

theorem resc_twelve (s : List UInt8) (u v : Nat) (h1 : s.getD 1 0 = 117) (h : runitN s = some u) (hu : 55296 ≤ u ∧ u < 56320) (h2 : runitN (s.drop 6) = some v) (hv : 56320 ≤ v ∧ v ≤ 57343) : rescR s = some (gly (65536 + (u - 55296) * 1024 + (v - 56320)), 12) := by
  have hl := runit_len s u h
  unfold rescR
  rw [if_neg (by omega), h1]
  have : meantB (117 : UInt8).toNat = none := rfl
  simp only [this, h]
  rw [if_neg (by omega), if_neg (by omega)]
  simp only [h2]
  rw [if_neg (by omega)]

theorem quote_step (f : Nat) (pre post o : List UInt8) (c : UInt8) : unqN (f + 1) (pre ++ (quoteB c ++ post)) (pre.length : Int) o = unqN f (pre ++ (quoteB c ++ post)) ((pre.length + (quoteB c).length : Nat) : Int) (o ++ [c]) := by
  have ht := all_bytes tabQ tabQ_ok c.toNat (UInt8.toNat_lt c)
  simp only [tabQ, UInt8.ofNat_toNat, Bool.and_eq_true] at ht
  obtain ⟨ht, -⟩ := ht
  by_cases h2 : (quoteB c).length = 2
  · rw [if_pos h2] at ht
    simp only [Bool.and_eq_true, decide_eq_true_eq] at ht
    obtain ⟨hq, hm⟩ := ht
    generalize (quoteB c).getD 1 0 = x at hq hm
    rw [hq]
    exact unq_esc f _ pre.length o [c] 2 (by simp) (by simp [List.getD]) (by simpa using resc_two x c post hm)
  by_cases h6 : (quoteB c).length = 6
  · rw [if_neg h2, if_pos h6] at ht
    simp only [Bool.and_eq_true, decide_eq_true_eq] at ht
    obtain ⟨⟨⟨hq, hm⟩, hn⟩, h32⟩ := ht
    generalize (quoteB c).getD 4 0 = x at hq hm
    generalize (quoteB c).getD 5 0 = y at hq hn
    rw [hq]
    have hr := runit_six 48 48 x y post 0 0 _ _ rfl rfl hm hn
    have e : ((0 * 16 + 0) * 16 + c.toNat / 16) * 16 + c.toNat % 16 = c.toNat := by omega
    rw [e] at hr
    have g := resc_six (92 :: 117 :: 48 :: 48 :: x :: y :: post) c.toNat rfl hr (.inl (by omega))
    have gc : gly c.toNat = [c] := by unfold gly; rw [if_pos (by omega)]; simp
    rw [gc] at g
    exact unq_esc f _ pre.length o [c] 6 (by simp) (by simp [List.getD]) (by simpa using g)
  · rw [if_neg h2, if_neg h6] at ht
    simp only [Bool.and_eq_true, decide_eq_true_eq] at ht
    obtain ⟨⟨⟨hq, h34⟩, h92⟩, h32⟩ := ht
    rw [hq]
    exact unq_lit f _ pre.length o c (by simp) (by simp [List.getD]) (by rintro rfl; exact h34 rfl) (by rintro rfl; exact h92 rfl) h32

theorem quote_text (f : Nat) (post : List UInt8) : ∀ (s pre o : List UInt8), unqN (f + s.length) (pre ++ (s.flatMap quoteB ++ post)) (pre.length : Int) o = unqN f (pre ++ (s.flatMap quoteB ++ post)) ((pre.length + (s.flatMap quoteB).length : Nat) : Int) (o ++ s)
  | [], pre, o => by simp
  | c :: s, pre, o => by
    have h1 := quote_step (f + s.length) pre (s.flatMap quoteB ++ post) o c
    have h2 := quote_text f post s (pre ++ quoteB c) (o ++ [c])
    simp only [List.flatMap_cons, List.append_assoc, List.length_append, List.length_cons, List.cons_append, List.nil_append] at h1 h2 ⊢
    rw [← Nat.add_assoc f, h1, h2, Nat.add_assoc]

theorem quoteB_pos (c : UInt8) : 1 ≤ (quoteB c).length := by
  unfold quoteB
  repeat' split
  all_goals simp

theorem flat_len : ∀ s : List UInt8, s.length ≤ (s.flatMap quoteB).length ∧ (s.flatMap quoteB).length ≤ 6 * s.length
  | [] => by simp
  | c :: s => by
    have h := flat_len s
    have h1 := quoteB_pos c
    have h2 := quoteB_len c
    simp only [List.flatMap_cons, List.length_append, List.length_cons]
    omega

theorem quote_len (s : List UInt8) : (quoteG s).length = (s.flatMap quoteB).length + 2 := by unfold quoteG; simp

theorem unquote_quote (s more : List UInt8) : unquoteG (quoteG s ++ more) = if validG s then some (s, ((quoteG s).length : Int)) else none := by
  have hl := flat_len s
  have e : quoteG s ++ more = [34] ++ (s.flatMap quoteB ++ (34 :: more)) := by unfold quoteG; simp
  have h := quote_text ((quoteG s ++ more).length - s.length - 1 + 1) (34 :: more) s [34] []
  have hL : (quoteG s ++ more).length = (s.flatMap quoteB).length + 2 + more.length := by rw [List.length_append, quote_len]
  rw [show (quoteG s ++ more).length - s.length - 1 + 1 + s.length = (quoteG s ++ more).length by omega, ← e] at h
  have hu : unquoteG (quoteG s ++ more) = unqN (quoteG s ++ more).length (quoteG s ++ more) 1 [] := by rw [e]; rfl
  rw [hu]
  have e1 : (([34] : List UInt8).length : Int) = 1 := rfl
  rw [e1] at h
  have ql := quote_len s
  generalize s.flatMap quoteB = F at *
  rw [h, unq_end _ _ _ _ (by rw [hL]; simp; omega) (by rw [e, show ([34] : List UInt8).length + F.length = F.length + 1 from Nat.add_comm _ _]; simp [List.getD])]
  rw [ql]
  simp only [List.length_cons, List.length_nil, List.nil_append]
  rw [show ((0 + 1 + F.length : Nat) : Int) + 1 = ((F.length + 2 : Nat) : Int) by omega]

theorem unquote_cut (s : List UInt8) : unquoteG ((quoteG s).take ((quoteG s).length - 1)) = none := by
  have e : (quoteG s).take ((quoteG s).length - 1) = [34] ++ (s.flatMap quoteB ++ []) := by
    rw [quote_len]
    unfold quoteG
    simp
  rw [e]
  have h := quote_text (1 + (s.flatMap quoteB).length - s.length) [] s [34] []
  have hl := flat_len s
  clear e
  generalize s.flatMap quoteB = F at *
  rw [show 1 + F.length - s.length + s.length = ([34] ++ (F ++ [])).length by simp; omega] at h
  have hu : unquoteG ([34] ++ (F ++ [])) = unqN ([34] ++ (F ++ [])).length ([34] ++ (F ++ [])) 1 [] := rfl
  have e1 : (([34] : List UInt8).length : Int) = 1 := rfl
  rw [e1] at h
  rw [hu, h]
  cases 1 + F.length - s.length with
  | zero => rfl
  | succ k =>
    simp only [unqN]
    rw [if_pos (by simp; omega)]

theorem quote_bytes (s : List UInt8) : ∀ b ∈ quoteG s, 32 ≤ b.toNat := by
  intro b hb
  unfold quoteG at hb
  simp only [List.mem_cons, List.mem_append, List.mem_flatMap, List.not_mem_nil, or_false] at hb
  rcases hb with rfl | ⟨c, -, hc⟩ | rfl
  · decide
  · have ht := all_bytes tabQ tabQ_ok c.toNat (UInt8.toNat_lt c)
    simp only [tabQ, UInt8.ofNat_toNat, Bool.and_eq_true] at ht
    exact of_decide_eq_true (List.all_eq_true.1 ht.2 b hc)
  · decide

/-- a code point's bytes are valid -/
theorem point_of_gly (r : Nat) (c : UInt8) (t : List UInt8) (h : gly r = c :: t) : (pointN (c :: t)).2 = (c :: t).length := by
  have hr := utf8_gly r
  unfold gly at h
  by_cases h1 : r < 128
  · rw [if_pos h1] at h
    cases h
    rw [point_1 _ _ (by simp; omega)]
    rfl
  rw [if_neg h1] at h
  by_cases h2 : r < 2048
  · rw [if_pos h2] at h
    cases h
    have e : (UInt8.ofNat (192 + r / 64)).toNat = 192 + r / 64 := by simp; omega
    have e2 : (UInt8.ofNat (128 + r % 64)).toNat = 128 + r % 64 := by simp; omega
    rw [point_m2 _ _ (by omega), multi_some 2 _ _ (by simp)]
    simp only [List.take_succ_cons, List.take_zero, List.tail_cons, List.foldl_cons, List.foldl_nil, e, e2]
    rw [if_pos]
    · rfl
    · rw [show (192 + r / 64) % 32 * 64 + (128 + r % 64) % 64 = r by omega]
      unfold gly; rw [if_neg h1, if_pos h2]
  rw [if_neg h2] at h
  by_cases h3 : (55296 ≤ r ∧ r < 57344) ∨ 1114111 < r
  · rw [if_pos h3] at h
    cases h
    rfl
  rw [if_neg h3] at h
  by_cases h4 : r < 65536
  · rw [if_pos h4] at h
    cases h
    have e : (UInt8.ofNat (224 + r / 4096)).toNat = 224 + r / 4096 := by simp; omega
    have e1 : (UInt8.ofNat (128 + r / 64 % 64)).toNat = 128 + r / 64 % 64 := by simp; omega
    have e2 : (UInt8.ofNat (128 + r % 64)).toNat = 128 + r % 64 := by simp; omega
    rw [point_m3 _ _ (by omega), multi_some 3 _ _ (by simp)]
    simp only [List.take_succ_cons, List.take_zero, List.tail_cons, List.foldl_cons, List.foldl_nil, e, e1, e2]
    rw [if_pos]
    · rfl
    · rw [show ((224 + r / 4096) % 16 * 64 + (128 + r / 64 % 64) % 64) * 64 + (128 + r % 64) % 64 = r by omega]
      unfold gly; rw [if_neg h1, if_neg h2, if_neg h3, if_pos h4]
  · rw [if_neg h4] at h
    cases h
    have e : (UInt8.ofNat (240 + r / 262144)).toNat = 240 + r / 262144 := by simp; omega
    have e0 : (UInt8.ofNat (128 + r / 4096 % 64)).toNat = 128 + r / 4096 % 64 := by simp; omega
    have e1 : (UInt8.ofNat (128 + r / 64 % 64)).toNat = 128 + r / 64 % 64 := by simp; omega
    have e2 : (UInt8.ofNat (128 + r % 64)).toNat = 128 + r % 64 := by simp; omega
    rw [point_m4 _ _ (by omega), multi_some 4 _ _ (by simp)]
    simp only [List.take_succ_cons, List.take_zero, List.tail_cons, List.foldl_cons, List.foldl_nil, e, e0, e1, e2]
    rw [if_pos]
    · rfl
    · rw [show (((240 + r / 262144) % 8 * 64 + (128 + r / 4096 % 64) % 64) * 64 + (128 + r / 64 % 64) % 64) * 64 + (128 + r % 64) % 64 = r by omega]
      unfold gly; rw [if_neg h1, if_neg h2, if_neg h3, if_neg h4]

theorem gly_valid (r : Nat) : validG (gly r) = true := by
  cases h : gly r with
  | nil => rfl
  | cons c t =>
    have hp := point_of_gly r c t h
    rw [validG_cons, if_neg (by rw [hp]; simp), hp, List.drop_length]
    rfl

/-- a unit of four digits -/
def hexT (up : Bool) : List UInt8 := cond up [48, 49, 50, 51, 52, 53, 54, 55, 56, 57, 65, 66, 67, 68, 69, 70] [48, 49, 50, 51, 52, 53, 54, 55, 56, 57, 97, 98, 99, 100, 101, 102]
def digs (up : Bool) (u : Nat) : List UInt8 := [92, 117, (hexT up).getD (u / 4096 % 16) 0, (hexT up).getD (u / 256 % 16) 0, (hexT up).getD (u / 16 % 16) 0, (hexT up).getD (u % 16) 0]

theorem hex_digit (up : Bool) (d : Nat) (h : d < 16) : digitN ((hexT up).getD d 0).toNat = some d := by
  have : ∀ (up : Bool) (d : Fin 16), digitN ((hexT up).getD d.val 0).toNat = some d.val := by decide
  exact this up ⟨d, h⟩

theorem runit_digs (up : Bool) (u : Nat) (hu : u < 65536) (post : List UInt8) : runitN (digs up u ++ post) = some u := by
  have h := runit_six _ _ _ _ post _ _ _ _ (hex_digit up (u / 4096 % 16) (by omega)) (hex_digit up (u / 256 % 16) (by omega)) (hex_digit up (u / 16 % 16) (by omega)) (hex_digit up (u % 16) (by omega))
  rw [show ((u / 4096 % 16 * 16 + u / 256 % 16) * 16 + u / 16 % 16) * 16 + u % 16 = u by omega] at h
  exact h

set_option maxRecDepth 100000 in
theorem unquote_one (up : Bool) (u : Nat) (hu : u < 65536) (hs : u < 55296 ∨ 57343 < u) : unquoteG (34 :: (digs up u ++ [34])) = some (gly u, 8) := by
  have hr := resc_six (digs up u ++ [34]) u rfl (runit_digs up u hu _) hs
  have h := unq_esc 7 (34 :: (digs up u ++ [34])) 1 [] (gly u) 6 (by simp [digs]) (by simp [digs]) (by simpa using hr)
  have hl : (34 :: (digs up u ++ [34])).length = 8 := by simp [digs]
  have hq : unquoteG (34 :: (digs up u ++ [34])) = unqN 8 (34 :: (digs up u ++ [34])) 1 [] := by unfold unquoteG; dsimp only; rw [if_pos rfl, hl]
  rw [hq]
  refine h.trans ?_
  rw [unq_end 6 _ (1 + 6) _ (by simp [digs]) (by simp [digs])]
  simp [gly_valid]

set_option maxRecDepth 100000 in
theorem unquote_two (up : Bool) (u v : Nat) (hu : 55296 ≤ u ∧ u < 56320) (hv : 56320 ≤ v ∧ v ≤ 57343) : unquoteG (34 :: (digs up u ++ (digs up v ++ [34]))) = some (gly (65536 + (u - 55296) * 1024 + (v - 56320)), 14) := by
  have hr := resc_twelve (digs up u ++ (digs up v ++ [34])) u v rfl (runit_digs up u (by omega) _) hu (by simpa [digs] using runit_digs up v (by omega) [34]) hv
  have h := unq_esc 13 (34 :: (digs up u ++ (digs up v ++ [34]))) 1 [] _ 12 (by simp [digs]) (by simp [digs]) (by simpa using hr)
  have hl : (34 :: (digs up u ++ (digs up v ++ [34]))).length = 14 := by simp [digs]
  have hq : unquoteG (34 :: (digs up u ++ (digs up v ++ [34]))) = unqN 14 (34 :: (digs up u ++ (digs up v ++ [34]))) 1 [] := by unfold unquoteG; dsimp only; rw [if_pos rfl, hl]
  rw [hq]
  refine h.trans ?_
  rw [unq_end 12 _ (1 + 12) _ (by simp [digs]) (by simp [digs])]
  simp [gly_valid]
end Go.Proofs.Ytmiclamhiohemaa
