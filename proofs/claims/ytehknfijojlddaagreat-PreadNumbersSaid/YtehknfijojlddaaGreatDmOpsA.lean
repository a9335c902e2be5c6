/-
  Operations that only compute: each is the model's.
-/
import Derived.Test.YtehknfijojlddaaGreatDmRel
import Derived.Laws.Cover4
import Derived.Laws.IdiomStrings
namespace Go.DM
set_option autoImplicit false
set_option linter.unusedSimpArgs false
set_option linter.unusedVariables false

/-- how many slots a function has, where the listed variables lie -/
structure Cx where
  nt : Nat
  G : List Nat

structure SG (g : Gh) (cx : Cx) (s : FS) (w : World) (a : Act) : Prop where
  hr : HR g s.H s.n w
  er : ER g cx.nt s.E a.tmps
  gl : ∀ (i b : Nat), cx.G[i]? = some b → g.A i ∧ g.ρ i = b

/-- where an operation leads -/
def Goes (at_ : Nat) (cx : Cx) (g : Gh) (s : FS) (w : World) (a : Act) (d : Option Nat) (v : D) (ws : List (Nat × Option Obj)) (next : Act → World → Prop) : Prop :=
  ∀ a' w' g', SG g' cx ⟨putF s.E d v, putsF s.H ws, s.n⟩ w' a' → FR (fun id => id = at_) g s.H w g' (putsF s.H ws) w' → a'.defers = a.defers → next a' w'

def const1 : D → Value → Bool
  | .int k n, .int k' n' => decide (k = k') && (n == n' && (decide (k.min ≤ n) && decide (n ≤ k.max)))
  | .bool b, .bool b' => b == b'
  | .str l, .string s => decide (s.data.toList.map (·.toNat) = l) && decide (s.size ≤ maxI)
  | .nils, .slice none 0 0 => true
  | .nilp, .pointer none => true
  | .nilif, .nilIface => true
  | .nilf, .nilFunc => true
  | .nilm, .map none => true
  | _, _ => false
def const1s : List D → List Value → Bool
  | [], [] => true
  | c :: cs, v :: vs => const1 c v && const1s cs vs
  | _, _ => false
def constOK : D → Value → Bool
  | .agg cs, .agg vs => const1s cs vs.toList
  | v, cv => const1 v cv
def srcOK (cx : Cx) : ASrc → Operand → Bool
  | .t n, .tmp k => n == k && Nat.blt n cx.nt
  | .c v, .const cv => constOK v cv
  | .c (.fn f []), .func h => f == h
  | .c (.ptr i 0), .global b => cx.G[i]? == some b
  | _, _ => false
def srcsOK (cx : Cx) : List ASrc → List Operand → Bool
  | [], [] => true
  | x :: xs, y :: ys => srcOK cx x y && srcsOK cx xs ys
  | _, _ => false
def osrcOK (cx : Cx) : Option ASrc → Option Operand → Bool
  | none, none => true
  | some x, some y => srcOK cx x y
  | _, _ => false

section
variable {g : Gh} {cx : Cx} {s : FS} {w : World} {a : Act} {P : Program} {m : Oper} {at_ : Nat} {v : D} {ws : List (Nat × Option Obj)} {next : Act → World → Prop} {Q : Exit → Act → World → Prop}

theorem const1_rel {v : D} {cv : Value} (h : const1 v cv = true) : VRel g v cv ∧ v.one = true := by
  unfold const1 at h
  split at h
  · simp only [Bool.and_eq_true, decide_eq_true_eq, beq_iff_eq] at h
    obtain ⟨rfl, rfl, h1, h2⟩ := h
    exact ⟨.int _ _ ⟨h1, h2⟩, rfl⟩
  · obtain rfl := by simpa using h
    exact ⟨.bool _, rfl⟩
  · simp only [Bool.and_eq_true, decide_eq_true_eq] at h
    exact ⟨.str _ _ h.1 h.2, rfl⟩
  · exact ⟨.nils, rfl⟩
  · exact ⟨.nilp, rfl⟩
  · exact ⟨.nilif, rfl⟩
  · exact ⟨.nilf, rfl⟩
  · exact ⟨.nilm, rfl⟩
  · simp at h

theorem const1s_rel : ∀ {cs : List D} {vs : List Value}, const1s cs vs = true → Row g cs vs
  | [], [], _ => ⟨rfl, by simp, by simp⟩
  | c :: cs, v :: vs, h => by
    simp only [const1s, Bool.and_eq_true] at h
    obtain ⟨h1, h2⟩ := const1_rel (g := g) h.1
    obtain ⟨k1, k2, k3⟩ := const1s_rel h.2
    refine ⟨by simp [k1], by simpa using ⟨h2, k2⟩, ?_⟩
    intro i c' cv' hc hv
    cases i with
    | zero => simp at hc hv; subst hc hv; exact h1
    | succ i => simp at hc hv; exact k3 i _ _ hc hv
  | [], _ :: _, h => by simp [const1s] at h
  | _ :: _, [], h => by simp [const1s] at h

theorem Row.agg {cs : List D} {vs : Array Value} (h : Row g cs vs.toList) : VRel g (.agg cs) (.agg vs) :=
  .agg _ _ (by simpa using h.len) h.one (fun i c cv hc hv => h.rel i c cv hc (by simpa using hv))

theorem constOK_rel {v : D} {cv : Value} (h : constOK v cv = true) : VRel g v cv := by
  unfold constOK at h
  split at h
  · exact (const1s_rel h).agg
  · exact (const1_rel h).1

theorem src_rel {x : ASrc} {o : Operand} (h : srcOK cx x o = true) (e : SG g cx s w a) : VRel g (x.ev s.E) (a.eval o) := by
  unfold srcOK at h
  split at h
  · simp only [Bool.and_eq_true, beq_iff_eq] at h
    obtain ⟨rfl, h⟩ := h
    exact e.er.rel _ (by simpa [Nat.blt_eq] using h)
  · exact constOK_rel h
  · obtain rfl := by simpa using h
    exact .fn _ [] #[] rfl (by simp)
  · simp only [beq_iff_eq] at h
    obtain ⟨h1, h2⟩ := e.gl _ _ h
    subst h2
    exact .ptr _ 0 h1
  · simp at h

theorem SG.put (h : SG g cx s w a) (d : Option Nat) {v : D} {cv : Value} (hv : VRel g v cv) : SG g cx ⟨putF s.E d v, s.H, s.n⟩ w (a.put d cv) :=
  ⟨h.hr, h.er.put d hv, h.gl⟩

theorem put_defers (a : Act) (d : Option Nat) (v : Value) : (a.put d v).defers = a.defers := by cases d <;> rfl

/-- an operation that yields a value in the same world -/
theorem goes_value (h : SG g cx s w a) {v : D} {cv : Value} (hrun : (execOp a.eval m).run P w = .ok (.value cv) w) (hv : VRel g v cv)
    (hn : Goes at_ cx g s w a m.dst v [] next) : m.wp P a w next Q := by
  unfold Oper.wp
  rw [hrun, Oper.upon_value]
  exact hn _ _ g (h.put m.dst hv) (FR.refl _ _ _ _) (put_defers _ _ _)

theorem wrap_range (k : IntKind) (n : Int) : k.min ≤ k.wrap n ∧ k.wrap n ≤ k.max := by
  cases k <;> simp [IntKind.wrap, IntKind.min, IntKind.max, IntKind.bits, IntKind.signed] <;> omega
theorem zero_range (k : IntKind) : k.min ≤ 0 ∧ 0 ≤ k.max := by cases k <;> decide
theorem emod_le' (x y : Int) (hx : 0 ≤ x) : x % y ≤ x := by
  by_cases hy : y = 0
  · subst hy; simp
  · rcases Int.lt_or_gt_of_ne hy with h | h
    · rw [← Int.emod_neg]
      by_cases hl : x < -y
      · rw [Int.emod_eq_of_lt hx hl]; omega
      · have := Int.emod_lt_of_pos x (b := -y) (by omega); omega
    · by_cases hl : x < y
      · rw [Int.emod_eq_of_lt hx hl]; omega
      · have := Int.emod_lt_of_pos x h; omega
theorem tmod_range (k : IntKind) (x y : Int) (h : k.min ≤ x ∧ x ≤ k.max) : k.min ≤ x.tmod y ∧ x.tmod y ≤ k.max := by
  have hz := zero_range k
  rcases Int.le_total 0 x with hx | hx
  · have h1 := Int.tmod_nonneg y hx
    have h2 : x.tmod y ≤ x := by
      rw [Int.tmod_eq_emod_of_nonneg hx]; exact emod_le' _ _ hx
    omega
  · have hx' : 0 ≤ -x := by omega
    have h1 := Int.tmod_nonneg y hx'
    have h2 : (-x).tmod y ≤ -x := by
      rw [Int.tmod_eq_emod_of_nonneg hx']; exact emod_le' _ _ hx'
    rw [Int.neg_tmod] at h1 h2
    omega
theorem shr_range (k : IntKind) (x : Int) (n : Nat) (h : k.min ≤ x ∧ x ≤ k.max) : k.min ≤ x.fdiv (2 ^ n) ∧ x.fdiv (2 ^ n) ≤ k.max := by
  have hz := zero_range k
  have hp : (0 : Int) < 2 ^ n := Int.pow_pos (by omega)
  have hp' : (1 : Int) ≤ 2 ^ n := hp
  rw [Int.fdiv_eq_ediv_of_nonneg _ (by omega)]
  generalize (2 : Int) ^ n = p at *
  rcases Int.le_total 0 x with hx | hx
  · have h1 := Int.ediv_nonneg hx (Int.le_of_lt hp)
    have h2 := Int.ediv_le_self p hx
    omega
  · have h2 : x / p ≤ 0 := by
      have := Int.ediv_le_ediv hp hx
      simpa using this
    have h1 : x ≤ x / p := by
      refine (Int.le_ediv_iff_mul_le hp).2 ?_
      have := Int.mul_le_mul_of_nonpos_left hx hp'
      simpa using this
    omega

theorem ltI_eq (a b : Int) : ltI a b = decide (a < b) := by
  cases a <;> cases b <;> simp only [ltI] <;> rw [Bool.eq_iff_iff] <;> simp [Nat.blt_eq] <;> omega
theorem eqI_eq (a b : Int) : eqI a b = decide (a = b) := by
  cases a <;> cases b <;> simp only [eqI, Tr.beq_iff] <;> rw [Bool.eq_iff_iff] <;> simp <;> omega
theorem eqL_eq : ∀ (a b : List Nat), eqL a b = decide (a = b)
  | [], [] => rfl
  | a :: x, b :: y => by
    simp only [eqL, Tr.beq_iff, eqL_eq x y]
    by_cases h : a = b <;> simp [h]
  | [], _ :: _ => by simp [eqL]
  | _ :: _, [] => by simp [eqL]
theorem map_toNat_inj : ∀ {a b : List UInt8}, a.map (·.toNat) = b.map (·.toNat) → a = b
  | [], [], _ => rfl
  | a :: x, b :: y, h => by
    simp only [List.map_cons, List.cons.injEq] at h
    rw [UInt8.toNat_inj.1 h.1, map_toNat_inj h.2]
  | [], _ :: _, h => by simp at h
  | _ :: _, [], h => by simp at h
theorem eqL_map (a b : List UInt8) : eqL (a.map (·.toNat)) (b.map (·.toNat)) = decide (a = b) := by
  rw [eqL_eq]
  by_cases h : a = b
  · subst h; simp
  · simp only [h, decide_false, decide_eq_false_iff_not]
    exact fun h' => h (map_toNat_inj h')
theorem ltL_map : ∀ (a b : List UInt8), ltL (a.map (·.toNat)) (b.map (·.toNat)) = Op.bytesLess a b
  | [], [] => rfl
  | [], _ :: _ => rfl
  | _ :: _, [] => rfl
  | a :: x, b :: y => by
    have h1 : (Nat.blt a.toNat b.toNat) = decide (a < b) := by
      rw [Bool.eq_iff_iff]; simp [Nat.blt_eq, UInt8.lt_iff_toNat_lt]
    have h2 : Nat.beq a.toNat b.toNat = decide (a = b) := by
      rw [Tr.beq_iff, Bool.eq_iff_iff]; simp [UInt8.toNat_inj]
    simp only [List.map_cons, ltL, Op.bytesLess, h1, h2, ltL_map x y]
    by_cases ha : a < b
    · simp [ha]
    · by_cases hb : a = b <;> simp [ha, hb]
theorem lenL_eq {α : Type} : ∀ (l : List α) (n : Nat), lenL l n = n + l.length
  | [], n => rfl
  | _ :: r, n => by simp only [lenL, lenL_eq r]; simp; omega
theorem sameK_eq {a b : IntKind} (h : sameK a b = true) : a = b := by cases a <;> cases b <;> first | rfl | simp [sameK] at h
theorem chk_some {R : Type} {c : Bool} {x : Option R} {r : R} (h : chk c x = some r) : c = true ∧ x = some r := by
  cases c with
  | true => exact ⟨rfl, h⟩
  | false => simp [chk] at h
theorem chk_iff {R : Type} {c : Bool} {x : Option R} {r : R} : chk c x = some r ↔ c = true ∧ x = some r := ⟨chk_some, fun ⟨h, k⟩ => by rw [h]; exact k⟩
theorem size_data (s : ByteArray) : s.data.toList.length = s.size := by rw [Array.length_toList]; rfl
theorem toList_data (s : ByteArray) : s.toList = s.data.toList := ByteArray.toList_eq s
theorem beqL (x y : List UInt8) : (x == y) = decide (x = y) := by
  rw [Bool.eq_iff_iff]; simp

theorem binInt_rel {o : BinOp} {k : IntKind} {x y : Int} {v : D} (hk : binInt o k x y = some v) (hx : k.min ≤ x ∧ x ≤ k.max) :
    ∃ cv, (∀ w : World, (if o = .add ∨ o = .sub ∨ o = .mul then Op.intArith o k x y else if o = .quo ∨ o = .rem then Op.intDiv o k x y else if o = .and ∨ o = .or ∨ o = .xor ∨ o = .andNot then Op.intBits o k x y else Op.intCmp o x y).run P w = .ok cv w)
      ∧ VRel g v cv := by
  unfold binInt at hk
  split at hk <;> (try simp only [chk_iff, Option.some.injEq, eqI_eq (b := 0), Bool.not_eq_true', decide_eq_false_iff_not] at hk) <;> (try (obtain ⟨hne, hk⟩ := hk)) <;> (try subst hk)
  · exact ⟨.int k (k.wrap (x + y)), fun w => by simp [Op.intArith], .int _ _ (wrap_range _ _)⟩
  · exact ⟨.int k (k.wrap (x - y)), fun w => by simp [Op.intArith], .int _ _ (wrap_range _ _)⟩
  · exact ⟨.int k (k.wrap (x * y)), fun w => by simp [Op.intArith], .int _ _ (wrap_range _ _)⟩
  · exact ⟨.int k (k.wrap (x.tdiv y)), fun w => by simp [Op.intDiv, hne], .int _ _ (wrap_range _ _)⟩
  · exact ⟨.int k (x.tmod y), fun w => by simp [Op.intDiv, hne], .int _ _ (tmod_range _ _ _ hx)⟩
  · exact ⟨.int k (bitsI .and k x y), fun w => by simp [Op.intBits, bitsI], .int _ _ (wrap_range _ _)⟩
  · exact ⟨.int k (bitsI .or k x y), fun w => by simp [Op.intBits, bitsI], .int _ _ (wrap_range _ _)⟩
  · exact ⟨.int k (bitsI .xor k x y), fun w => by simp [Op.intBits, bitsI], .int _ _ (wrap_range _ _)⟩
  · exact ⟨.int k (bitsI .andNot k x y), fun w => by simp [Op.intBits, bitsI], .int _ _ (wrap_range _ _)⟩
  · exact ⟨.bool (x == y), fun w => by simp [Op.intCmp], by rw [eqI_eq]; exact .bool _⟩
  · exact ⟨.bool (!(x == y)), fun w => by simp [Op.intCmp, bne], by rw [eqI_eq]; exact .bool _⟩
  · exact ⟨.bool (decide (x < y)), fun w => by simp [Op.intCmp], by rw [ltI_eq]; exact .bool _⟩
  · exact ⟨.bool (decide (x ≤ y)), fun w => by simp [Op.intCmp], by rw [ltI_eq, show decide (x ≤ y) = !decide (y < x) by rw [Bool.eq_iff_iff]; simp]; exact .bool _⟩
  · exact ⟨.bool (decide (y < x)), fun w => by simp [Op.intCmp], by rw [ltI_eq]; exact .bool _⟩
  · exact ⟨.bool (decide (y ≤ x)), fun w => by simp [Op.intCmp], by rw [ltI_eq, show decide (y ≤ x) = !decide (x < y) by rw [Bool.eq_iff_iff]; simp]; exact .bool _⟩

theorem le_of_lt_or (x y : List UInt8) : (!Op.bytesLess y x) = (Op.bytesLess x y || decide (x = y)) := by
  induction x generalizing y with
  | nil => cases y <;> simp [Op.bytesLess]
  | cons a x ih =>
    cases y with
    | nil => simp [Op.bytesLess]
    | cons b y =>
      simp only [Op.bytesLess]
      by_cases h1 : a < b
      · have h2 : ¬ b < a := fun h => by rw [UInt8.lt_iff_toNat_lt] at *; omega
        have h3 : b ≠ a := by rintro rfl; exact h2 h1
        simp [h1, h2, h3]
      · by_cases h2 : b < a
        · have h3 : a ≠ b := by rintro rfl; exact h1 h2
          simp [h1, h2, h3]
        · have h3 : a = b := by
            rw [UInt8.lt_iff_toNat_lt] at *
            exact UInt8.toNat_inj.1 (by omega)
          subst h3
          have := ih y
          simp [h1] at this ⊢
          rw [this]

theorem binStr_rel {o : BinOp} {x y : ByteArray} {v : D} (hk : binStr o (x.data.toList.map (·.toNat)) (y.data.toList.map (·.toNat)) = some v) :
    ∃ cv, (∀ w : World, (Op.stringOp o x y).run P w = .ok cv w) ∧ VRel g v cv := by
  unfold binStr at hk
  split at hk
  · obtain ⟨hle, hk⟩ := chk_some hk
    obtain rfl := Option.some.inj hk
    have hle : x.size + y.size ≤ maxI := by simpa [lenL_eq, size_data] using Nat.le_of_ble_eq_true hle
    refine ⟨.string (x ++ y), fun w => ?_, .str _ _ (by simp) (by simpa [ByteArray.size_append] using hle)⟩
    have : ¬ (9223372036854775807 < (x.size : Int) + (y.size : Int)) := by unfold maxI at hle; omega
    simp [Op.stringOp, IntKind.max, IntKind.signed, IntKind.bits, this]
  · obtain rfl := Option.some.inj hk; exact ⟨.bool (decide (x.data.toList = y.data.toList)), fun w => by simp only [Op.stringOp, toList_data, beqL]; rfl, by rw [eqL_map]; exact .bool _⟩
  · obtain rfl := Option.some.inj hk; exact ⟨.bool (!decide (x.data.toList = y.data.toList)), fun w => by simp only [Op.stringOp, toList_data, beqL]; rfl, by rw [eqL_map]; exact .bool _⟩
  · obtain rfl := Option.some.inj hk; exact ⟨.bool (Op.bytesLess x.data.toList y.data.toList), fun w => by simp [Op.stringOp, toList_data], by rw [ltL_map]; exact .bool _⟩
  · obtain rfl := Option.some.inj hk; exact ⟨.bool (Op.bytesLess x.data.toList y.data.toList || decide (x.data.toList = y.data.toList)), fun w => by simp only [Op.stringOp, toList_data, beqL]; rfl, by rw [ltL_map, le_of_lt_or]; exact .bool _⟩
  · obtain rfl := Option.some.inj hk; exact ⟨.bool (!(Op.bytesLess x.data.toList y.data.toList || decide (x.data.toList = y.data.toList))), fun w => by simp only [Op.stringOp, toList_data, beqL]; rfl, by rw [ltL_map, ← le_of_lt_or, Bool.not_not]; exact .bool _⟩
  · obtain rfl := Option.some.inj hk; exact ⟨.bool (!Op.bytesLess x.data.toList y.data.toList), fun w => by simp [Op.stringOp, toList_data], by rw [ltL_map]; exact .bool _⟩
  · simp at hk

theorem shift_rel {k k' : IntKind} {x y : Int} (hy : 0 ≤ y) (hx : k.min ≤ x ∧ x ≤ k.max) :
    (∀ w : World, (Op.shift .shl k x k' y).run P w = .ok (.int k (shlI k x y)) w) ∧ (∀ w : World, (Op.shift .shr k x k' y).run P w = .ok (.int k (shrI k x y)) w)
      ∧ VRel g (.int k (shlI k x y)) (.int k (shlI k x y)) ∧ VRel g (.int k (shrI k x y)) (.int k (shrI k x y)) := by
  have hn : ¬ y < 0 := by omega
  exact ⟨fun w => by simp [Op.shift, hn, shlI], fun w => by simp [Op.shift, hn, shrI], .int _ _ (wrap_range _ _), .int _ _ (shr_range _ _ _ hx)⟩

def intK (P : Program) (t : TypeId) (k : IntKind) : Bool := match P.underlying t with | some (.int k') => decide (k = k') | _ => false
def strT (P : Program) (t : TypeId) : Bool := match P.underlying t with | some .string => true | _ => false
def isAggT (P : Program) (t : TypeId) : Option Bool := match P.underlying t with | some (.struct _) | some (.array _ _) => some true | some _ => some false | none => none
def sizeT (P : Program) (t : TypeId) : Option Nat := (P.info? t).map (·.size)
def nonZeroT (P : Program) (t : TypeId) : Bool := match sizeT P t with | some n => n != 0 | none => false
/-- a slice type: its element's type, its size in cells (not none) -/
def sliceT (P : Program) (t : TypeId) (sz : Nat) : Bool := match P.underlying t with | some (.slice e) => (sizeT P e == some sz) && Nat.blt 0 sz | _ => false
def callB : Op → Option (Builtin × List Operand × List TypeId)
  | .call c => match c.callee with | .builtin b => some (b, c.args.toList, c.argTypes.toList) | _ => none
  | _ => none
theorem callB_some {o : Op} {b : Builtin} {as : List Operand} {ts : List TypeId} (h : callB o = some (b, as, ts)) : o = .call ⟨.builtin b, ⟨as⟩, ⟨ts⟩⟩ := by
  unfold callB at h
  split at h
  · rename_i c
    obtain ⟨callee, ⟨args⟩, ⟨ats⟩⟩ := c
    simp only at h
    split at h
    · simp only [Option.some.injEq, Prod.mk.injEq] at h
      obtain ⟨rfl, rfl, rfl⟩ := h
      rfl
    · simp at h
  · simp at h

theorem strT_facts {t : TypeId} (h : strT P t = true) : P.underlying t = some .string := by
  unfold strT at h
  split at h
  · assumption
  · simp at h
theorem intK_facts {t : TypeId} {k : IntKind} (h : intK P t k = true) : P.underlying t = some (.int k) := by
  unfold intK at h
  split at h
  · rename_i k' e; obtain rfl : k = k' := by simpa using h
    exact e
  · simp at h
theorem run_sizeT {t : TypeId} {n : Nat} (h : sizeT P t = some n) (w : World) : (sizeOf t).run P w = .ok n w := by
  unfold sizeT at h
  obtain ⟨i, hi, rfl⟩ := Option.map_eq_some_iff.1 h
  simp [sizeOf, typeInfo, hi]
theorem run_isAggT {t : TypeId} {b : Bool} (h : isAggT P t = some b) (w : World) : (isAgg t).run P w = .ok b w := by
  unfold isAggT at h
  split at h
  · rename_i f e
    obtain rfl := Option.some.inj h
    simp [isAgg, run_underlying e]
  · rename_i f c e
    obtain rfl := Option.some.inj h
    simp [isAgg, run_underlying e]
  · rename_i d h1 h2 e
    obtain rfl := Option.some.inj h
    cases d <;> simp_all [isAgg, run_underlying e]
  · simp at h
theorem sliceT_facts {t : TypeId} {sz : Nat} (h : sliceT P t sz = true) : ∃ e, P.underlying t = some (.slice e) ∧ sizeT P e = some sz ∧ 0 < sz := by
  unfold sliceT at h
  split at h
  · rename_i e u
    simp only [Bool.and_eq_true, beq_iff_eq] at h
    exact ⟨e, u, h.1, by simpa [Nat.blt_eq] using h.2⟩
  · simp at h

theorem byte_range (c : UInt8) : IntKind.u8.min ≤ (c.toNat : Int) ∧ (c.toNat : Int) ≤ IntKind.u8.max := by
  have := c.toNat_lt
  simp [IntKind.min, IntKind.max, IntKind.signed, IntKind.bits]
  omega
theorem len_range {n : Nat} (h : n ≤ maxI) : IntKind.i64.min ≤ (n : Int) ∧ (n : Int) ≤ IntKind.i64.max := by
  simp [IntKind.min, IntKind.max, IntKind.signed, IntKind.bits, maxI] at *; omega

end
end Go.DM
