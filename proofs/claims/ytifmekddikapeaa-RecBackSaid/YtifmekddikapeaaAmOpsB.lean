/-
  The operations that only compute: each step of the abstract machine is the model's.
-/
import Derived.Test.YtifmekddikapeaaAmOpsA
import Derived.Laws.Cover4
import Derived.Laws.IdiomStrings
namespace Go.AM
set_option autoImplicit false
set_option linter.unusedSimpArgs false
set_option linter.unusedVariables false

def osrcOK : Option ASrc → Option Operand → Bool
  | none, none => true
  | some x, some y => srcOK x y
  | _, _ => false

def plainSrc : ASrc → Bool
  | .tk _ => false
  | _ => true

def intK (P : Program) (t : TypeId) (k : IntKind) : Bool := match P.underlying t with | some (.int k') => decide (k = k') | _ => false

def isAggT (P : Program) (t : TypeId) : Option Bool := match P.underlying t with | some (.struct _) | some (.array _ _) => some true | some _ => some false | none => none

def sizeT (P : Program) (t : TypeId) : Option Nat := (P.info? t).map (·.size)

def nonZeroT (P : Program) (t : TypeId) : Bool := match sizeT P t with | some n => n != 0 | none => false

/-- the type that bytes have -/
def byteT (P : Program) : Nat := ((List.range P.types.size).find? fun t => match P.underlying t with | some (.int .u8) => true | _ => false).getD 0

def elemOK (P : Program) (e : TypeId) (k : EK) : Bool :=
  (match k with | .u8 => e == byteT P | _ => true) &&
  (match P.info? e with
  | some i => i.size == k.sz && (i.bytes == k.bytes && (isAggT P e == some k.isAgg && (match i.zero with | some z => const1s (enc k (dflt k)) z.cells.toList && (z.cells.size == k.sz) | none => false)))
  | none => false)

def sliceOK (P : Program) (t : TypeId) (k : EK) : Bool := match P.underlying t with | some (.slice e) => elemOK P e k | _ => false

/-- are a type's fields plain, one cell each, in their order, of such kinds? -/
def flatFrom (P : Program) : List Nat → Nat → List Field → Bool
  | [], _, [] => true
  | k :: ks, i, f :: r => (f.name != "_" && (f.offset == i && (match P.underlying f.type with | some (.int _) => k == 0 | some .string => k == 1 | some .bool => k == 2 | _ => false))) && flatFrom P ks (i + 1) r
  | _, _, _ => false

def flatT (P : Program) (t : TypeId) (ks : List Nat) : Bool :=
  match P.underlying t with
  | some (.struct fs) => flatFrom P ks 0 fs.toList && (!P.stoodInHeld t && !P.eqGuardType P.depth t)
  | _ => false

/-- the builtin that an operation calls, with what -/
def callB : Op → Option (Builtin × List Operand × List TypeId)
  | .call c => match c.callee with | .builtin b => some (b, c.args.toList, c.argTypes.toList) | _ => none
  | _ => none

theorem callB_some {o : Op} {b : Builtin} {as : List Operand} {ts : List TypeId} (h : callB o = some (b, as, ts)) : o = .call ⟨.builtin b, ⟨as⟩, ⟨ts⟩⟩ := by
  unfold callB at h
  split at h
  · rename_i c
    obtain ⟨callee, ⟨args⟩, ⟨ats⟩⟩ := c
    simp only at h
    split at h
    · simp only [Option.some.injEq, Prod.mk.injEq] at h
      obtain ⟨rfl, rfl, rfl⟩ := h
      rfl
    · simp at h
  · simp at h

def chkPure (P : Program) (o : IOp) (m : Oper) : Bool :=
  match o with
  | .pick d c x y => (m.dst == some d) && (match m.op with | .pick c' x' y' => srcOK c c' && (srcOK x x' && srcOK y y') && (plainSrc x && plainSrc y) | _ => false)
  | .bin d o x y => (m.dst == some d) && (match m.op with | .binOp o' _ x' y' _ => decide (o = o') && (srcOK x x' && srcOK y y') | _ => false)
  | .un d o x => (m.dst == some d) && (match m.op with | .unOp o' _ x' => decide (o = o') && srcOK x x' | _ => false)
  | .cvi d k x => (m.dst == some d) && (match m.op with | .convert a b x' => (P.underlying a).isSome && (intK P b k && srcOK x x') | _ => false)
  | .cvs d x => (m.dst == some d) && (match m.op with | .convert a b x' => (P.underlying a).isSome && ((match P.underlying b with | some .string => true | _ => false) && srcOK x x') | _ => false)
  | .b2s d x => (m.dst == some d) && (match m.op with | .convert a b x' => (match P.underlying a, P.underlying b with | some (.slice e), some .string => intK P e .u8 | _, _ => false) && srcOK x x' | _ => false)
  | .r2s d x => (m.dst == some d) && (match m.op with | .convert a b x' => (match P.underlying a, P.underlying b with | some (.slice e), some .string => intK P e .i32 | _, _ => false) && srcOK x x' | _ => false)
  | .i2s d x => (m.dst == some d) && (match m.op with | .convert a b x' => (P.underlying a).isSome && ((match P.underlying b with | some .string => true | _ => false) && srcOK x x') | _ => false)
  | .lens d x => (m.dst == some d) && (match callB m.op with | some (.len, [x'], [t]) => (match P.underlying t with | some .string => true | _ => false) && srcOK x x' | _ => false)
  | .lenl d x => (m.dst == some d) && (match callB m.op with | some (.len, [x'], [t]) => (match P.underlying t with | some (.slice _) => true | _ => false) && srcOK x x' | _ => false)
  | .idx d x i => (m.dst == some d) && (match m.op with | .index t x' i' => (match P.underlying t with | some .string => true | _ => false) && (srcOK x x' && srcOK i i') | _ => false)
  | .ixa d k x i => (m.dst == some d) && (match m.op with | .indexAddr t x' i' => sliceOK P t k && (srcOK x x' && srcOK i i') | _ => false)
  | .subs d x lo hi => (m.dst == some d) && (match m.op with | .slice t x' lo' hi' none => (match P.underlying t with | some .string => true | _ => false) && (srcOK x x' && (osrcOK lo lo' && osrcOK hi hi')) | _ => false)
  | .subl d k x lo hi => (m.dst == some d) && (match m.op with | .slice t x' lo' hi' none => sliceOK P t k && (srcOK x x' && (osrcOK lo lo' && osrcOK hi hi')) | _ => false)
  | .fad d off x => (m.dst == some d) && (match m.op with | .fieldAddr t x' f => (match P.underlying t with | some (.struct fs) => (match fs[f]? with | some fd => (fd.offset == off) && nonZeroT P fd.type | none => false) | _ => false) && srcOK x x' | _ => false)
  | .fld d off n agg x => (m.dst == some d) && (match m.op with | .field t x' f => (match P.underlying t with | some (.struct fs) => (match fs[f]? with | some fd => (fd.offset == off) && ((sizeT P fd.type == some n) && ((isAggT P fd.type == some agg) && (agg || n == 1))) | none => false) | _ => false) && srcOK x x' | _ => false)
  | .ext d i x => (m.dst == some d) && (match m.op with | .extract x' i' => i == i' && srcOK x x' | _ => false)
  | .nck d x => (m.dst == d) && (match m.op with | .nilCheck x' => srcOK x x' | _ => false)
  | .ld d n agg false x => (m.dst == some d) && (match m.op with | .load t x' => (sizeT P t == some n) && ((isAggT P t == some agg) && ((agg || n == 1) && srcOK x x')) | _ => false)
  | .beq d neg x y => (m.dst == some d) && (match m.op with | .binOp o' t x' y' _ => decide (o' = if neg then .neq else .eql) && ((match P.underlying t with | some .bool => true | _ => false) && (srcOK x x' && srcOK y y')) | _ => false)
  | .peq d neg x y => (m.dst == some d) && (match m.op with | .binOp o' t x' y' _ => decide (o' = if neg then .neq else .eql) && ((match P.underlying t with | some (.pointer _) => true | _ => false) && (srcOK x x' && srcOK y y')) | _ => false)
  | .mx d mn x y => (m.dst == some d) && (match callB m.op with | some (.min, [x', y'], _) => mn && (srcOK x x' && srcOK y y') | some (.max, [x', y'], _) => !mn && (srcOK x x' && srcOK y y') | _ => false)
  | _ => false

section
variable {w : World} {g : Gh} {s s' : St} {a : Act} {P : Program} {Γ : ASpec} {m : Oper} {next : Act → World → Prop} {Q : Exit → Act → World → Prop}

theorem wrap_range (k : IntKind) (n : Int) : k.min ≤ k.wrap n ∧ k.wrap n ≤ k.max := by
  cases k <;> simp [IntKind.wrap, IntKind.min, IntKind.max, IntKind.bits, IntKind.signed] <;> omega
theorem zero_range (k : IntKind) : k.min ≤ 0 ∧ 0 ≤ k.max := by cases k <;> decide
theorem emod_le' (x y : Int) (hx : 0 ≤ x) : x % y ≤ x := by
  by_cases hy : y = 0
  · subst hy; simp
  · rcases Int.lt_or_gt_of_ne hy with h | h
    · rw [← Int.emod_neg]
      by_cases hl : x < -y
      · rw [Int.emod_eq_of_lt hx hl]; omega
      · have := Int.emod_lt_of_pos x (b := -y) (by omega); omega
    · by_cases hl : x < y
      · rw [Int.emod_eq_of_lt hx hl]; omega
      · have := Int.emod_lt_of_pos x h; omega
theorem tmod_range (k : IntKind) (x y : Int) (h : k.min ≤ x ∧ x ≤ k.max) : k.min ≤ x.tmod y ∧ x.tmod y ≤ k.max := by
  have hz := zero_range k
  rcases Int.le_total 0 x with hx | hx
  · have h1 := Int.tmod_nonneg y hx
    have h2 : x.tmod y ≤ x := by
      rw [Int.tmod_eq_emod_of_nonneg hx]; exact emod_le' _ _ hx
    omega
  · have hx' : 0 ≤ -x := by omega
    have h1 := Int.tmod_nonneg y hx'
    have h2 : (-x).tmod y ≤ -x := by
      rw [Int.tmod_eq_emod_of_nonneg hx']; exact emod_le' _ _ hx'
    rw [Int.neg_tmod] at h1 h2
    omega
theorem shr_range (k : IntKind) (x : Int) (n : Nat) (h : k.min ≤ x ∧ x ≤ k.max) : k.min ≤ x.fdiv (2 ^ n) ∧ x.fdiv (2 ^ n) ≤ k.max := by
  have hz := zero_range k
  have hp : (0 : Int) < 2 ^ n := Int.pow_pos (by omega)
  have hp' : (1 : Int) ≤ 2 ^ n := hp
  rw [Int.fdiv_eq_ediv_of_nonneg _ (by omega)]
  generalize (2 : Int) ^ n = p at *
  rcases Int.le_total 0 x with hx | hx
  · have h1 := Int.ediv_nonneg hx (Int.le_of_lt hp)
    have h2 := Int.ediv_le_self p hx
    omega
  · have h2 : x / p ≤ 0 := by
      have := Int.ediv_le_ediv hp hx
      simpa using this
    have h1 : x ≤ x / p := by
      refine (Int.le_ediv_iff_mul_le hp).2 ?_
      have := Int.mul_le_mul_of_nonpos_left hx hp'
      simpa using this
    omega

theorem op_pick {d : Nat} {c x y : ASrc} (hc : chkPure P (.pick d c x y) m = true) (hs : step Γ (.pick d c x y) s = some (true, s')) (h : SR g s w a) (hn : Goes g s w a s' next) : m.wp P a w next Q := by
  obtain ⟨dst, op, ty, pos, aft, gd⟩ := m
  simp only [chkPure, Bool.and_eq_true, beq_iff_eq] at hc
  obtain ⟨rfl, hc⟩ := hc
  split at hc
  · rename_i c' x' y'
    simp only [Bool.and_eq_true] at hc
    obtain ⟨⟨h1, h2, h3⟩, h4, h5⟩ := hc
    have r1 := src_rel h1 h.er
    have r2 := (src_rel h2 h.er).disown
    have r3 := (src_rel h3 h.er).disown
    simp only [step] at hs
    split at hs
    · rename_i t ht
      obtain rfl : _ = s' := by simpa using hs
      rw [pickV_eq] at hn
      rw [ht] at r1
      cases e1 : a.eval c' with
      | bool b =>
        rw [e1] at r1
        cases r1
        refine goes_value h rfl (cv := if t then a.eval x' else a.eval y') (by simp [execOp, e1, asBool]) ?_ (by cases t <;> exact disown_bare _) hn
        cases t
        · exact r3
        · exact r2
      | _ => rw [e1] at r1; cases r1
    · simp at hs
  · simp at hc

theorem op_cvi {d : Nat} {k : IntKind} {x : ASrc} (hc : chkPure P (.cvi d k x) m = true) (hs : step Γ (.cvi d k x) s = some (true, s')) (h : SR g s w a) (hn : Goes g s w a s' next) : m.wp P a w next Q := by
  obtain ⟨dst, op, ty, pos, aft, gd⟩ := m
  simp only [chkPure, Bool.and_eq_true, beq_iff_eq] at hc
  obtain ⟨rfl, hc⟩ := hc
  split at hc
  · rename_i t1 t2 x'
    simp only [Bool.and_eq_true] at hc
    obtain ⟨h1, h2, h3⟩ := hc
    have r1 := src_rel h3 h.er
    simp only [step] at hs
    split at hs
    · rename_i k' n hx
      obtain rfl : _ = s' := by simpa using hs
      rw [hx] at r1
      obtain ⟨d1, e1⟩ := Option.isSome_iff_exists.1 h1
      unfold intK at h2
      split at h2
      · rename_i k2 e2
        obtain rfl : k = k2 := by simpa using h2
        generalize hcv : a.eval x' = cv at r1
        cases r1
        refine goes_value h rfl (cv := .int k (k.wrap n)) ?_ (.int _ _ (wrap_range _ _)) rfl hn
        simp only [execOp, hcv, convert]
        cases d1 <;> simp [run_underlying e1, run_underlying e2, Conv.intToInt]
      · simp at h2
    · simp at hs
  · simp at hc

theorem op_cvs {d : Nat} {x : ASrc} (hc : chkPure P (.cvs d x) m = true) (hs : step Γ (.cvs d x) s = some (true, s')) (h : SR g s w a) (hn : Goes g s w a s' next) : m.wp P a w next Q := by
  obtain ⟨dst, op, ty, pos, aft, gd⟩ := m
  simp only [chkPure, Bool.and_eq_true, beq_iff_eq] at hc
  obtain ⟨rfl, hc⟩ := hc
  split at hc
  · rename_i t1 t2 x'
    simp only [Bool.and_eq_true] at hc
    obtain ⟨h1, h2, h3⟩ := hc
    have r1 := src_rel h3 h.er
    simp only [step] at hs
    split at hs
    · rename_i l hx
      obtain rfl : _ = s' := by simpa using hs
      rw [hx] at r1
      obtain ⟨d1, e1⟩ := Option.isSome_iff_exists.1 h1
      split at h2
      · rename_i e2
        generalize hcv : a.eval x' = cv at r1
        have r1' := r1
        cases r1
        refine goes_value h rfl (cv := .string _) ?_ r1' rfl hn
        simp only [execOp, hcv, convert]
        cases d1 <;> simp [run_underlying e1, run_underlying e2]
      · simp at h2
    · simp at hs
  · simp at hc

theorem toList_foldl_push (ns : List Int) : ∀ b : ByteArray, (ns.foldl (fun (r : ByteArray) n => r.push (UInt8.ofNat n.toNat)) b).data.toList = b.data.toList ++ ns.map fun n => UInt8.ofNat n.toNat := by
  induction ns with
  | nil => intro b; simp
  | cons n ns ih => intro b; rw [List.foldl_cons, ih]; simp [ByteArray.push]

theorem byte_range (c : UInt8) : IntKind.u8.min ≤ (c.toNat : Int) ∧ (c.toNat : Int) ≤ IntKind.u8.max := by
  have := c.toNat_lt
  simp [IntKind.min, IntKind.max, IntKind.signed, IntKind.bits]
  omega

theorem empty_data : ByteArray.empty.data.toList = [] := rfl

theorem size_data (s : ByteArray) : s.data.toList.length = s.size := by rw [Array.length_toList]; rfl

theorem op_b2s {d : Nat} {x : ASrc} (hc : chkPure P (.b2s d x) m = true) (hs : step Γ (.b2s d x) s = some (true, s')) (h : SR g s w a) (hn : Goes g s w a s' next) : m.wp P a w next Q := by
  obtain ⟨dst, op, ty, pos, aft, gd⟩ := m
  simp only [chkPure, Bool.and_eq_true, beq_iff_eq] at hc
  obtain ⟨rfl, hc⟩ := hc
  split at hc
  · rename_i t1 t2 x'
    simp only [Bool.and_eq_true] at hc
    obtain ⟨h1, h3⟩ := hc
    have r1 := src_rel h3 h.er
    simp only [step] at hs
    split at hs
    · rename_i o l hx
      obtain rfl : _ = s' := by simpa using hs
      rw [hx] at r1
      split at h1
      · rename_i e u1 u2
        unfold intK at h1
        split at h1
        · rename_i k2 u3
          obtain rfl : IntKind.u8 = k2 := by simpa using h1
          generalize hcv : a.eval x' = cv at r1
          cases r1 with
          | sln => exact goes_value h rfl (cv := .string .empty) (by simp [execOp, hcv, run_convert_bytes_string w _ _ _ _ _ _ u1 u3 u2, Conv.bytesToString]) (.str _ _ rfl (by simp [maxI])) rfl hn
          | sle => exact goes_value h rfl (cv := .string .empty) (by simp [execOp, hcv, run_convert_bytes_string w _ _ _ _ _ _ u1 u3 u2, Conv.bytesToString, loadCells, loadCellsFrom]) (.str _ _ rfl (by simp [maxI])) rfl hn
          | sl _ _ _ b off len cap hl hcap hm hfl f hI hw hv =>
            subst hl
            have hcells : (loadCells ⟨b, off, none⟩ l.length).run P w = .ok ((l.map fun c : UInt8 => (c.toNat : Int)).map (Value.int .u8)).toArray w := by
              have hlen : l.length = ((l.map fun c : UInt8 => (c.toNat : Int)).map (Value.int .u8)).length := by simp
              rw [hlen]
              refine run_loadCells_list w _ _ ?_
              intro j v hj
              have hj' : j < l.length := by simpa using (List.getElem?_eq_some_iff.1 hj).1
              have hx1 : l[j]? = some l[j] := List.getElem?_eq_getElem hj'
              have q1 := hw j l[j] 0 hx1 (by simp [enc])
              have q2 := hv j l[j] 0 (.int .u8 l[j].toNat) hx1 (by simp [enc])
              simp only [EK.sz, Nat.mul_one, Nat.add_zero] at q1
              rw [Addr.add_lit, q1]
              simp only [List.map_map, List.getElem?_map, hx1, Option.map_some, Option.some.injEq, Function.comp] at hj
              subst hj
              generalize hf : f j 0 = y at q2
              cases q2
              rfl
            refine goes_value h rfl (cv := .string ((l.map fun c : UInt8 => (c.toNat : Int)).foldl (fun (r : ByteArray) n => r.push (UInt8.ofNat n.toNat)) ByteArray.empty)) ?_ (.str _ _ ?_ ?_) rfl hn
            · simp [execOp, hcv, run_convert_bytes_string w _ _ _ _ _ _ u1 u3 u2, run_bytesToString w _ _ _ _ hcells]
            · rw [toList_foldl_push, empty_data]; simp [Function.comp_def]
            · rw [← size_data, toList_foldl_push, empty_data]; simp; omega
        · simp at h1
      · simp at h1
    · simp at hs
  · simp at hc

theorem toList_foldl_app (ns : List Int) : ∀ b : ByteArray, (ns.foldl (fun (r : ByteArray) n => r ++ Utf8.encode n) b).data.toList = b.data.toList ++ utf8s ns := by
  induction ns with
  | nil => intro b; simp [utf8s]
  | cons n ns ih => intro b; rw [List.foldl_cons, ih]; simp [utf8s, utf8, ByteArray.toList_data_append]

theorem op_i2s {d : Nat} {x : ASrc} (hc : chkPure P (.i2s d x) m = true) (hs : step Γ (.i2s d x) s = some (true, s')) (h : SR g s w a) (hn : Goes g s w a s' next) : m.wp P a w next Q := by
  obtain ⟨dst, op, ty, pos, aft, gd⟩ := m
  simp only [chkPure, Bool.and_eq_true, beq_iff_eq] at hc
  obtain ⟨rfl, hc⟩ := hc
  split at hc
  · rename_i t1 t2 x'
    simp only [Bool.and_eq_true] at hc
    obtain ⟨h1, h2, h3⟩ := hc
    have r1 := src_rel h3 h.er
    simp only [step] at hs
    split at hs
    · rename_i k' n hx
      obtain rfl : _ = s' := by simpa using hs
      rw [hx] at r1
      obtain ⟨d1, e1⟩ := Option.isSome_iff_exists.1 h1
      split at h2
      · rename_i e2
        generalize hcv : a.eval x' = cv at r1
        cases r1
        refine goes_value h rfl (cv := .string (Utf8.encode n)) ?_ (.str _ _ rfl ?_) rfl hn
        · simp only [execOp, hcv, convert]
          cases d1 <;> simp [run_underlying e1, run_underlying e2, Conv.intToString]
        · have := encode_size_le n
          unfold maxI
          omega
      · simp at h2
    · simp at hs
  · simp at hc

theorem op_r2s {d : Nat} {x : ASrc} (hc : chkPure P (.r2s d x) m = true) (hs : step Γ (.r2s d x) s = some (true, s')) (h : SR g s w a) (hn : Goes g s w a s' next) : m.wp P a w next Q := by
  obtain ⟨dst, op, ty, pos, aft, gd⟩ := m
  simp only [chkPure, Bool.and_eq_true, beq_iff_eq] at hc
  obtain ⟨rfl, hc⟩ := hc
  split at hc
  · rename_i t1 t2 x'
    simp only [Bool.and_eq_true] at hc
    obtain ⟨h1, h3⟩ := hc
    have r1 := src_rel h3 h.er
    simp only [step] at hs
    split at hs
    · rename_i o l hx
      simp only [Option.some.injEq, Prod.mk.injEq, decide_eq_true_eq] at hs
      obtain ⟨hfit, rfl⟩ := hs
      unfold reach at hfit
      rw [hx] at r1
      split at h1
      · rename_i e u1 u2
        unfold intK at h1
        split at h1
        · rename_i k2 u3
          obtain rfl : IntKind.i32 = k2 := by simpa using h1
          generalize hcv : a.eval x' = cv at r1
          cases r1 with
          | sln => exact goes_value h rfl (cv := .string .empty) (by simp [execOp, hcv, run_convert_runes_string w _ _ _ _ _ _ u1 u3 u2, Conv.runesToString]) (.str _ _ rfl (by simp [maxI])) rfl hn
          | sle => exact goes_value h rfl (cv := .string .empty) (by simp [execOp, hcv, run_convert_runes_string w _ _ _ _ _ _ u1 u3 u2, Conv.runesToString, loadCells, loadCellsFrom]) (.str _ _ rfl (by simp [maxI])) rfl hn
          | sl _ _ _ b off len cap hl hcap hm hfl f hI hw hv =>
            subst hl
            have hcells : (loadCells ⟨b, off, none⟩ l.length).run P w = .ok (l.map (Value.int .i32)).toArray w := by
              have hlen : l.length = (l.map (Value.int .i32)).length := by simp
              rw [hlen]
              refine run_loadCells_list w _ _ ?_
              intro j v hj
              have hj' : j < l.length := by simpa using (List.getElem?_eq_some_iff.1 hj).1
              have hx1 : l[j]? = some l[j] := List.getElem?_eq_getElem hj'
              have q1 := hw j l[j] 0 hx1 (by simp [enc])
              have q2 := hv j l[j] 0 (.int .i32 l[j]) hx1 (by simp [enc])
              simp only [EK.sz, Nat.mul_one, Nat.add_zero] at q1
              rw [Addr.add_lit, q1]
              simp only [List.map_map, List.getElem?_map, hx1, Option.map_some, Option.some.injEq, Function.comp] at hj
              subst hj
              generalize hf : f j 0 = y at q2
              cases q2
              rfl
            refine goes_value h rfl (cv := .string (l.foldl (fun (r : ByteArray) n => r ++ Utf8.encode n) ByteArray.empty)) ?_ (.str _ _ ?_ ?_) rfl hn
            · simp [execOp, hcv, run_convert_runes_string w _ _ _ _ _ _ u1 u3 u2, run_runesToString w _ _ _ _ hcells, runesBytes]
            · rw [toList_foldl_app, empty_data]; simp
            · have := runesBytes_size_le l
              unfold runesBytes at this
              unfold maxI
              omega
        · simp at h1
      · simp at h1
    · simp at hs
  · simp at hc

theorem op_lens {d : Nat} {x : ASrc} (hc : chkPure P (.lens d x) m = true) (hs : step Γ (.lens d x) s = some (true, s')) (h : SR g s w a) (hn : Goes g s w a s' next) : m.wp P a w next Q := by
  obtain ⟨dst, op, ty, pos, aft, gd⟩ := m
  simp only [chkPure, Bool.and_eq_true, beq_iff_eq] at hc
  obtain ⟨rfl, hc⟩ := hc
  split at hc
  · rename_i x' t hop
    obtain rfl := callB_some hop
    simp only [Bool.and_eq_true] at hc
    obtain ⟨h1, h3⟩ := hc
    have r1 := src_rel h3 h.er
    simp only [step] at hs
    split at hs
    · rename_i l hx
      obtain rfl : _ = s' := by simpa using hs
      rw [hx] at r1
      split at h1
      · rename_i u1
        generalize hcv : a.eval x' = cv at r1
        cases r1 with
        | str _ b hl hm =>
          subst hl
          refine goes_value h rfl (cv := .int .i64 b.size) (by simp [execOp, resolve, hcv, invoke, builtin, Builtin.len_, run_underlying u1, goInt]) ?_ rfl hn
          rw [size_data]
          exact .int _ _ (by simp [IntKind.min, IntKind.max, IntKind.signed, IntKind.bits, maxI] at *; omega)
      · simp at h1
    · simp at hs
  · simp at hc

theorem op_lenl {d : Nat} {x : ASrc} (hc : chkPure P (.lenl d x) m = true) (hs : step Γ (.lenl d x) s = some (true, s')) (h : SR g s w a) (hn : Goes g s w a s' next) : m.wp P a w next Q := by
  obtain ⟨dst, op, ty, pos, aft, gd⟩ := m
  simp only [chkPure, Bool.and_eq_true, beq_iff_eq] at hc
  obtain ⟨rfl, hc⟩ := hc
  split at hc
  · rename_i x' t hop
    obtain rfl := callB_some hop
    simp only [Bool.and_eq_true] at hc
    obtain ⟨h1, h3⟩ := hc
    have r1 := src_rel h3 h.er
    simp only [step] at hs
    split at hs
    · rename_i k o l hx
      obtain rfl : _ = s' := by simpa using hs
      rw [hx] at r1
      split at h1
      · rename_i e u1
        generalize hcv : a.eval x' = cv at r1
        cases r1 with
        | sle =>
          exact goes_value h rfl (cv := .int .i64 0) (by simp [execOp, resolve, hcv, invoke, builtin, Builtin.len_, run_underlying u1, goInt]) (.int _ _ (by decide)) rfl hn
        | sln =>
          exact goes_value h rfl (cv := .int .i64 0) (by simp [execOp, resolve, hcv, invoke, builtin, Builtin.len_, run_underlying u1, goInt]) (.int _ _ (by decide)) rfl hn
        | sl _ _ _ b off len cap hl hcap hm =>
          subst hl
          refine goes_value h rfl (cv := .int .i64 l.length) (by simp [execOp, resolve, hcv, invoke, builtin, Builtin.len_, run_underlying u1, goInt]) ?_ rfl hn
          exact .int _ _ (by simp [IntKind.min, IntKind.max, IntKind.signed, IntKind.bits, maxI] at *; omega)
      · simp at h1
    · simp at hs
  · simp at hc

theorem op_idx {d : Nat} {x i : ASrc} (hc : chkPure P (.idx d x i) m = true) (hs : step Γ (.idx d x i) s = some (true, s')) (h : SR g s w a) (hn : Goes g s w a s' next) : m.wp P a w next Q := by
  obtain ⟨dst, op, ty, pos, aft, gd⟩ := m
  simp only [chkPure, Bool.and_eq_true, beq_iff_eq] at hc
  obtain ⟨rfl, hc⟩ := hc
  split at hc
  · rename_i t x' i'
    simp only [Bool.and_eq_true] at hc
    obtain ⟨h1, h2, h3⟩ := hc
    have r1 := src_rel h2 h.er
    have r2 := src_rel h3 h.er
    simp only [step] at hs
    split at hs
    · rename_i l k n hx hi
      simp only [Option.some.injEq, Prod.mk.injEq, Bool.and_eq_true, decide_eq_true_eq] at hs
      obtain ⟨⟨g1, g2⟩, rfl⟩ := hs
      rw [hx] at r1
      rw [hi] at r2
      split at h1
      · rename_i u1
        generalize hcv : a.eval x' = cv at r1
        generalize hci : a.eval i' = ci at r2
        cases r2
        cases r1 with
        | str _ b hl hm =>
          subst hl
          have hlt : n.toNat < b.size := by rw [size_data] at g2; omega
          have hget : b[n.toNat]? = some (b.data.toList.getD n.toNat 0) := by
            rw [getElem?_pos b n.toNat hlt]
            have : n.toNat < b.data.toList.length := by rw [size_data]; exact hlt
            simp only [List.getD, List.getElem?_eq_getElem this, Option.getD_some]
            rfl
          refine goes_value h rfl (cv := .int .u8 (b.data.toList.getD n.toNat 0).toNat) ?_ ?_ rfl hn
          · simp [execOp, hcv, hci, Instr.index, asIntOf, run_underlying u1, g1, hget]
          · exact .int _ _ (byte_range _)
      · simp at h1
    · simp at hs
  · simp at hc

theorem op_un {d : Nat} {o : UnOp} {x : ASrc} (hc : chkPure P (.un d o x) m = true) (hs : step Γ (.un d o x) s = some (true, s')) (h : SR g s w a) (hn : Goes g s w a s' next) : m.wp P a w next Q := by
  obtain ⟨dst, op, ty, pos, aft, gd⟩ := m
  simp only [chkPure, Bool.and_eq_true, beq_iff_eq] at hc
  obtain ⟨rfl, hc⟩ := hc
  split at hc
  · rename_i o' t x'
    simp only [Bool.and_eq_true, decide_eq_true_eq] at hc
    obtain ⟨rfl, h3⟩ := hc
    have r1 := src_rel h3 h.er
    simp only [step, Option.map_eq_some_iff] at hs
    obtain ⟨v, hv, hs⟩ := hs
    obtain rfl : _ = s' := by simpa using hs
    generalize hcv : a.eval x' = cv at r1
    unfold unV at hv
    split at hv
    · rename_i b hx
      cases Option.some.inj hv
      rw [hx] at r1
      cases r1
      exact goes_value h rfl (cv := .bool (!b)) (by simp [execOp, hcv, Op.unary]) (.bool _) rfl hn
    · rename_i k n hx
      cases Option.some.inj hv
      rw [hx] at r1
      cases r1
      exact goes_value h rfl (cv := .int k (k.wrap (0 - n))) (by simp [execOp, hcv, Op.unary, Op.intArith]) (.int _ _ (wrap_range _ _)) rfl hn
    · rename_i k n hx
      cases Option.some.inj hv
      rw [hx] at r1
      cases r1
      exact goes_value h rfl (cv := .int k (bitsI .xor k (if k.signed then -1 else k.max) n)) (by simp [execOp, hcv, Op.unary, Op.intBits, bitsI]) (.int _ _ (wrap_range _ _)) rfl hn
    · simp at hv
  · simp at hc

theorem binInt_rel {o : BinOp} {k : IntKind} {x y : Int} {v : V} (hk : binInt o k x y = some (true, v)) (hx : k.min ≤ x ∧ x ≤ k.max) :
    ∃ cv, (∀ w : World, (if o = .add ∨ o = .sub ∨ o = .mul then Op.intArith o k x y else if o = .quo ∨ o = .rem then Op.intDiv o k x y else if o = .and ∨ o = .or ∨ o = .xor ∨ o = .andNot then Op.intBits o k x y else Op.intCmp o x y).run P w = .ok cv w)
      ∧ (∀ I ρ N w, VRel I ρ N w v cv) ∧ v.bare = true := by
  unfold binInt at hk
  split at hk <;> (try simp only [Option.some.injEq, Prod.mk.injEq, true_and, Bool.not_eq_true', beq_eq_false_iff_ne] at hk) <;> (try (obtain ⟨hne, hk⟩ := hk)) <;> (try subst hk)
  · exact ⟨.int k (k.wrap (x + y)), fun w => by simp [Op.intArith], fun _ _ _ _ => .int _ _ (wrap_range _ _), rfl⟩
  · exact ⟨.int k (k.wrap (x - y)), fun w => by simp [Op.intArith], fun _ _ _ _ => .int _ _ (wrap_range _ _), rfl⟩
  · exact ⟨.int k (k.wrap (x * y)), fun w => by simp [Op.intArith], fun _ _ _ _ => .int _ _ (wrap_range _ _), rfl⟩
  · exact ⟨.int k (k.wrap (x.tdiv y)), fun w => by simp [Op.intDiv, hne], fun _ _ _ _ => .int _ _ (wrap_range _ _), rfl⟩
  · exact ⟨.int k (x.tmod y), fun w => by simp [Op.intDiv, hne], fun _ _ _ _ => .int _ _ (tmod_range _ _ _ hx), rfl⟩
  · exact ⟨.int k (bitsI .and k x y), fun w => by simp [Op.intBits, bitsI], fun _ _ _ _ => .int _ _ (wrap_range _ _), rfl⟩
  · exact ⟨.int k (bitsI .or k x y), fun w => by simp [Op.intBits, bitsI], fun _ _ _ _ => .int _ _ (wrap_range _ _), rfl⟩
  · exact ⟨.int k (bitsI .xor k x y), fun w => by simp [Op.intBits, bitsI], fun _ _ _ _ => .int _ _ (wrap_range _ _), rfl⟩
  · exact ⟨.int k (bitsI .andNot k x y), fun w => by simp [Op.intBits, bitsI], fun _ _ _ _ => .int _ _ (wrap_range _ _), rfl⟩
  · exact ⟨.bool (x == y), fun w => by simp [Op.intCmp], fun _ _ _ _ => .bool _, rfl⟩
  · exact ⟨.bool (!(x == y)), fun w => by simp [Op.intCmp, bne], fun _ _ _ _ => .bool _, rfl⟩
  · exact ⟨.bool (decide (x < y)), fun w => by simp [Op.intCmp], fun _ _ _ _ => .bool _, rfl⟩
  · exact ⟨.bool (decide (x ≤ y)), fun w => by simp [Op.intCmp], fun _ _ _ _ => .bool _, rfl⟩
  · exact ⟨.bool (decide (y < x)), fun w => by simp [Op.intCmp], fun _ _ _ _ => .bool _, rfl⟩
  · exact ⟨.bool (decide (y ≤ x)), fun w => by simp [Op.intCmp], fun _ _ _ _ => .bool _, rfl⟩

theorem toList_data (s : ByteArray) : s.toList = s.data.toList := ByteArray.toList_eq s

theorem beqL (x y : List UInt8) : (x == y) = decide (x = y) := by
  rw [Bool.eq_iff_iff]; simp

theorem binStr_rel {o : BinOp} {x y : ByteArray} {v : V} (hk : binStr o x.data.toList y.data.toList = some (true, v)) :
    ∃ cv, (∀ w : World, (Op.stringOp o x y).run P w = .ok cv w) ∧ (∀ I ρ N w, VRel I ρ N w v cv) ∧ v.bare = true := by
  unfold binStr at hk
  split at hk <;> (try simp only [Option.some.injEq, Prod.mk.injEq, true_and, decide_eq_true_eq, size_data] at hk)
  · obtain ⟨hle, rfl⟩ := hk
    refine ⟨.string (x ++ y), fun w => ?_, fun _ _ _ _ => .str _ _ (by simp) (by simpa [ByteArray.size_append] using hle), rfl⟩
    have : ¬ (9223372036854775807 < (x.size : Int) + (y.size : Int)) := by unfold maxI at hle; omega
    simp [Op.stringOp, IntKind.max, IntKind.signed, IntKind.bits, this]
  · subst hk; exact ⟨.bool (decide (x.data.toList = y.data.toList)), fun w => by simp only [Op.stringOp, toList_data, beqL]; rfl, fun _ _ _ _ => .bool _, rfl⟩
  · subst hk; exact ⟨.bool (!decide (x.data.toList = y.data.toList)), fun w => by simp only [Op.stringOp, toList_data, beqL]; rfl, fun _ _ _ _ => .bool _, rfl⟩
  · subst hk; exact ⟨.bool (Op.bytesLess x.data.toList y.data.toList), fun w => by simp [Op.stringOp, toList_data], fun _ _ _ _ => .bool _, rfl⟩
  · subst hk; exact ⟨.bool (Op.bytesLess x.data.toList y.data.toList || decide (x.data.toList = y.data.toList)), fun w => by simp only [Op.stringOp, toList_data, beqL]; rfl, fun _ _ _ _ => .bool _, rfl⟩
  · subst hk; exact ⟨.bool (!(Op.bytesLess x.data.toList y.data.toList || decide (x.data.toList = y.data.toList))), fun w => by simp only [Op.stringOp, toList_data, beqL]; rfl, fun _ _ _ _ => .bool _, rfl⟩
  · subst hk; exact ⟨.bool (!Op.bytesLess x.data.toList y.data.toList), fun w => by simp [Op.stringOp, toList_data], fun _ _ _ _ => .bool _, rfl⟩
  · simp at hk
end
end Go.AM
