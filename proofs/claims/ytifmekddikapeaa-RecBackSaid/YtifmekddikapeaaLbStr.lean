/-
  strings.Builder's String, wherever the builder lies: the bytes; the buffer's row has an owner no more.
-/
import Derived.Test.YtifmekddikapeaaLbOk
namespace Go.AM
set_option autoImplicit false
set_option linter.unusedVariables false

/-- another world in which the objects' rows and all cells are as they were -/
theorem HR.other {g : Gh} {hp : List AObj} {w w' : World} (h : HR g hp w) (hs : w.heap.size ≤ w'.heap.size)
    (hc : ∀ b j, b < w.heap.size → w'.cell? ⟨b, j, none⟩ = w.cell? ⟨b, j, none⟩)
    (ho : ∀ (id : Nat) cs, hp[id]? = some (some cs) → w'.heap[g.ρ id]? = w.heap[g.ρ id]?)
    (hw : ∀ (id j : Nat) cs c cv, hp[id]? = some (some cs) → (cellsOf cs)[j]? = some c → OwnOK g w (.cell id j) c cv → OwnOK g w' (.cell id j) c cv) :
    HR g hp w' ∧ Up g.I g.ρ hp.length w g.I g.ρ hp.length w' := by
  have hlt : ∀ b j, g.I b j → b < w.heap.size := by
    intro b j hi
    have := h.exI b j hi
    rcases Nat.lt_or_ge b w.heap.size with h' | h'
    · exact h'
    · simp [World.cell?, Array.getElem?_eq_none h'] at this
  have u : Up g.I g.ρ hp.length w g.I g.ρ hp.length w' := ⟨fun _ _ h => h, fun b j hi => hc b j (hlt b j hi), fun _ _ => rfl, Nat.le_refl _⟩
  refine ⟨⟨?_, h.apart, h.notI, h.notO, fun b j hi => by rw [hc b j (hlt b j hi)]; exact h.exI b j hi, fun b o hO => Nat.lt_of_lt_of_le (h.oLt b o hO) hs⟩, u⟩
  intro id cs hid
  obtain ⟨arr, e, fz, h1, h2⟩ := h.obj id cs hid
  exact ⟨arr, e, fz, (ho id cs hid).trans h1, h2.len, h2.plain, h2.typed, h2.cold, h2.one, fun j c cv hc hv => (h2.rel j c cv hc hv).up u, fun j c cv hc hv => hw id j cs c cv hid hc (h2.own j c cv hc hv), h2.bn⟩

/-- a cell's row has an owner no more -/
theorem HR.disownCell {g : Gh} {hp : List AObj} {w : World} (h : HR g hp w) {id j : Nat} {cs : List V} {k : EK} {o : Fl} {xs : List (Ty k)} (hid : hp[id]? = some (some cs)) (hj : cs[j]? = some (.sl k o xs)) :
    HR g (hp.set id (some (cs.set j (.sl k (.may false) xs)))) w := by
  have hl : id < hp.length := (List.getElem?_eq_some_iff.1 hid).1
  have hjl : j < cs.length := (List.getElem?_eq_some_iff.1 hj).1
  have key : ∀ (i : Nat) c, (hp.set id (some (cs.set j (.sl k (.may false) xs))))[i]? = some (some c) → ∃ c', hp[i]? = some (some c') ∧ ((i ≠ id ∧ c = c') ∨ (i = id ∧ c' = cs ∧ c = cs.set j (.sl k (.may false) xs))) := by
    intro i c hi
    rw [List.getElem?_set] at hi
    split at hi
    · rename_i e; subst e
      exact ⟨cs, hid, .inr ⟨rfl, rfl, by simpa using hi.symm⟩⟩
    · rename_i e
      exact ⟨c, hi, .inl ⟨fun h => e h.symm, rfl⟩⟩
  refine ⟨?_, ?_, ?_, ?_, h.exI, h.oLt⟩
  · intro i c hi
    obtain ⟨c', hc', r⟩ := key i c hi
    obtain ⟨arr, e, fz, h1, h2'⟩ := h.obj i c' hc'
    rcases r with ⟨hne, rfl⟩ | ⟨rfl, rfl, rfl⟩
    · rw [List.length_set]
      exact ⟨arr, e, fz, h1, h2'⟩
    · obtain ⟨rfl, h2⟩ := h2'.low (Go.Proofs.Ytifmekddikapeaa.row_cell hj rfl)
      refine ⟨arr, e, (0, 0), h1, ObjOK0.high ⟨by simpa using h2.len, ?_, ?_, ?_, ?_⟩⟩
      · intro c hc
        rcases List.mem_or_eq_of_mem_set hc with h' | h'
        · exact h2.one c h'
        · subst h'; rfl
      · intro i c cv hc hv
        rw [List.length_set]
        rw [List.getElem?_set] at hc
        split at hc
        · rename_i e; subst e
          simp only [Option.some.injEq] at hc
          subst hc
          exact (h2.rel j _ cv hj hv).own (by simp) (by simp)
        · exact h2.rel i c cv hc hv
      · intro i c cv hc hv
        rw [List.getElem?_set] at hc
        split at hc
        · rename_i e; subst e
          simp only [Option.some.injEq] at hc
          subst hc
          simp [OwnOK]
        · exact h2.own i c cv hc hv
      · intro i E n hc
        rw [List.getElem?_set] at hc
        split at hc
        · rename_i e; subst e
          simp at hc
        · exact h2.bn i E n hc
  · intro i i' c c' hi hi' hne
    obtain ⟨d, hd, _⟩ := key i c hi
    obtain ⟨d', hd', _⟩ := key i' c' hi'
    exact h.apart i i' d d' hd hd' hne
  · intro i c hi
    obtain ⟨d, hd, _⟩ := key i c hi
    exact h.notI i d hd
  · intro i c hi
    obtain ⟨d, hd, _⟩ := key i c hi
    exact h.notO i d hd
end Go.AM

namespace Go.Proofs.Ytifmekddikapeaa
open Go.AM Go.RowKit
set_option autoImplicit false
set_option linter.unusedVariables false

theorem liesAt_at {P : Program} {e : TypeId} (hc : P.cellsOf e = 1) (count off n : Nat) (hn : off + n ≤ count) : liesAt P P.depth e count off e n = true := by
  have hd : P.depth = (2 * (P.types.size + Made.depth) + 1) + 1 := rfl
  rw [hd]
  simp only [liesAt, Bool.or_eq_true]
  left
  rw [hd]
  simp [rowAt, hc, hn, sameLayout, Nat.mod_one]

theorem run_unsafeString_at {P : Program} (w : World) (pt it ty e : TypeId) (hp : P.underlying pt = some (.pointer e)) (hc : P.cellsOf e = 1) (g off cells : Nat) (hsh : w.shape? g = some (e, cells)) (l : List UInt8) (h0 : l ≠ []) (hn : off + l.length ≤ cells) (h63 : l.length ≤ 9223372036854775807)
    (hcell : ∀ j x, l[j]? = some x → w.cell? ((⟨g, off, none⟩ : Addr).add j) = some (.int .u8 x.toNat)) :
    (Builtin.unsafeString_ #[pt, it] ty #[.pointer (some ⟨g, off, none⟩), .int .i64 l.length]).run P w = .ok (.string ⟨l.toArray⟩) (w.freeze ⟨g, off, none⟩ l.length) := by
  have hl : l.length ≠ 0 := by simpa using h0
  have hlb := Lib.run_loadBytes (P := P) w l ⟨g, off, none⟩ .empty hcell
  have hlies := liesAt_at (P := P) hc (cells / P.cellsOf e) off l.length (by rw [hc]; simpa using hn)
  have h63' : ¬ (9223372036854775807 : Int) < (l.length : Int) := by omega
  have hmax : IntKind.i64.max = 9223372036854775807 := rfl
  have hneg : ¬ (l.length : Int) < 0 := by omega
  show (asInt (.int .i64 l.length) >>= _ : Sem Value).run P w = _
  simp [asInt, asIntOf, hmax, h63', hneg, hl, variablesAt, hsh, elemOf, run_underlying hp, hlies, hlb]

set_option maxHeartbeats 2000000 in
set_option maxRecDepth 100000 in
theorem st_walk (b o n : Nat) (v p : Value) (s : ByteArray) (w w' : World) (h1 : w.drew.cell? ⟨b, o + 1, none⟩ = some v) (h1' : w'.cell? ⟨b, o + 1, none⟩ = some v) (hv : ∃ ad cap, v = .slice ad n cap)
    (hSD : (Builtin.unsafeSliceData_ #[44] 60 #[v]).run Try.prog w.drew = .ok p w')
    (w'' : World) (hUS : (Builtin.unsafeString_ #[60, 3] 9 #[p, .int .i64 n]).run Try.prog w' = .ok (.string s) w'') :
    Calls Try.prog 27 #[.pointer (some ⟨b, o, none⟩)] w fun e x => e = .returned (.string s) ∧ x = w'' := by
  obtain ⟨ad, cap, rfl⟩ := hv
  go_enter Try.func27, Try.ntmps27
  go_wp2
  go_region
  all_goals (go_wp2; go_ret; exact ⟨rfl, rfl⟩)

theorem byteElem : Try.prog.underlying 60 = some (.pointer (byteT Try.prog)) := by kernel_rfl
theorem byteCells1 : Try.prog.cellsOf (byteT Try.prog) = 1 := by kernel_rfl

theorem freeze_heap (w : World) (a : Addr) (n : Nat) (b : Nat) (h : b ≠ a.block) : (w.freeze a n).heap[b]? = w.heap[b]? := by
  unfold World.freeze
  split
  · rfl
  · rw [Array.getElem?_modify, if_neg (fun e => h e.symm)]

theorem freeze_cell (w : World) (a : Addr) (n : Nat) (b j : Nat) : (w.freeze a n).cell? ⟨b, j, none⟩ = w.cell? ⟨b, j, none⟩ := by
  unfold World.freeze
  by_cases hn : n = 0
  · simp only [hn, if_true]
  · simp only [hn, if_false, World.cell?, Array.getElem?_modify]
    by_cases e : a.block = b
    · subst e
      simp only [if_true]
      cases hb : w.heap[a.block]? with
      | none => rfl
      | some o => cases o <;> rfl
    · simp only [e, if_false]

theorem freeze_size (w : World) (a : Addr) (n : Nat) : (w.freeze a n).heap.size = w.heap.size := by
  unfold World.freeze
  split <;> simp

theorem freeze_rest (w : World) (a : Addr) (n : Nat) : (w.freeze a n).os = w.os ∧ (w.freeze a n).tape = w.tape ∧ (w.freeze a n).output = w.output := by
  unfold World.freeze
  split <;> simp

theorem st_ok {id o : Nat} {cs : List V} {hp : List AObj} {l : List UInt8} (hid : hp[id]? = some (some cs)) (hc : cs[o + 1]? = some (.sl .u8 .own l)) :
    FnOK Try.prog 27 [.ptr id o] hp (.str l) (hp.set id (some (cs.set (o + 1) (.sl .u8 (.may false) l)))) := by
  intro w g cargs hβ hhr hlen hbare hrel
  match cargs, hlen, hrel with
  | ⟨[cv]⟩, hlen, hrel =>
    have r := hrel 0 (.ptr id o) cv rfl rfl
    cases r with
    | ptr _ _ hlt =>
    obtain ⟨arr, e, fz, h1, h2'⟩ := hhr.obj id cs hid
    obtain ⟨rfl, h2⟩ := h2'.low (row_cell hc rfl)
    have hoc : o + 1 < arr.size := by
      have := (List.getElem?_eq_some_iff.1 hc).1
      rw [h2.len] at this
      exact this
    have hcell : w.cell? ⟨g.ρ id, o + 1, none⟩ = arr[o + 1]? := cell_of_heap h1 (o + 1)
    obtain ⟨sv, hsv⟩ : ∃ sv, arr[o + 1]? = some sv := ⟨_, Array.getElem?_eq_getElem hoc⟩
    have hv := h2.rel (o + 1) _ sv hc hsv
    have ho := h2.own (o + 1) _ sv hc hsv
    rw [hsv] at hcell
    have hhr' := (hhr.disownCell hid hc).drew
    have hlen' : (hp.set id (some (cs.set (o + 1) (.sl .u8 (.may false) l)))).length = hp.length := by simp
    have hold : ∀ (i : Nat) c, (hp.set id (some (cs.set (o + 1) (.sl .u8 (.may false) l))))[i]? = some (some c) → ∃ c', hp[i]? = some (some c') := by
      intro i c hi
      rw [List.getElem?_set] at hi
      split at hi
      · rename_i e; subst e; exact ⟨cs, hid⟩
      · exact ⟨c, hi⟩
    have fin : ∀ (w'' : World), (∀ b j, b < w.heap.size → w''.cell? ⟨b, j, none⟩ = w.cell? ⟨b, j, none⟩) → w.heap.size ≤ w''.heap.size → w''.os = w.os → w''.tape = w.tape → w''.output = w.output →
        (∀ b, b < w.heap.size → (∀ ad len cap, sv = .slice (some ad) len cap → len ≠ 0 → b ≠ ad.block) → w''.heap[b]? = w.heap[b]?) →
        HR g (hp.set id (some (cs.set (o + 1) (.sl .u8 (.may false) l)))) w'' ∧ FR g hp w g (hp.set id (some (cs.set (o + 1) (.sl .u8 (.may false) l)))) w'' := by
      intro w'' e1 e2 e3 e4 e5 e6
      have hO : ∀ ad len cap, sv = .slice (some ad) len cap → g.O ad.block = some (.cell id (o + 1)) := by
        intro ad len cap e
        subst e
        exact ho.1
      obtain ⟨q1, q2⟩ := HR.other (w' := w'') (hhr.disownCell hid hc) e2 e1 (by
        intro i c hi
        obtain ⟨c', hc'⟩ := hold i c hi
        obtain ⟨arr', e', fz, p1, _⟩ := hhr.obj i c' hc'
        have hlt' : g.ρ i < w.heap.size := (Array.getElem?_eq_some_iff.1 p1).1
        refine e6 _ hlt' ?_
        intro ad len cap he _ hne
        have := hO ad len cap he
        rw [← hne, hhr.notO i c' hc'] at this
        cases this) (by
        intro i j cs' c cv hi hj hown
        by_cases hij : i = id ∧ j = o + 1
        · obtain ⟨rfl, rfl⟩ := hij
          rw [List.getElem?_set, if_pos rfl, if_pos hlt] at hi
          simp only [Option.some.injEq] at hi
          subst hi
          have hco : o + 1 < cs.length := (List.getElem?_eq_some_iff.1 hc).1
          have hcc : (cs.set (o + 1) (V.sl .u8 (.may false) l))[o + 1]? = some (.sl .u8 (.may false) l) := List.getElem?_set_self hco
          rw [cellsOf_eq (row_cell hcc rfl), hcc] at hj
          simp only [Option.some.injEq] at hj
          subst hj
          simp [OwnOK]
        · refine own_keep hown rfl (fun b j' hI => ⟨hI, e1 b j' ?_⟩) (fun b hO' => ⟨hO', e6 b (hhr.oLt b _ hO') ?_, fun _ h => h⟩)
          · have hs := hhr.exI b j' hI
            rcases Nat.lt_or_ge b w.heap.size with h' | h'
            · exact h'
            · simp [World.cell?, Array.getElem?_eq_none h'] at hs
          · intro ad len cap he _ hne
            have := hO ad len cap he
            rw [← hne, hO'] at this
            simp only [Option.some.injEq, Occ.cell.injEq] at this
            exact hij this)
      refine ⟨q1, rfl, e3, e4, e5, e2, ?_, by rw [hlen'] at q2 ⊢; exact q2, fun _ _ _ _ _ h => h, fun _ _ _ h => h, ?_⟩
      · intro b hb _ hO'
        refine e6 b hb ?_
        intro ad len cap he _ hne
        have := hO ad len cap he
        rw [← hne, hO'] at this
        cases this
      · intro i c hi
        exact .inl (hold i c hi)
    have res : ∀ (p : Value) (w' w'' : World) (n : Nat), l.length = n → (∃ ad cap, sv = .slice ad n cap) → w'.cell? ⟨g.ρ id, o + 1, none⟩ = some sv →
        (Builtin.unsafeSliceData_ #[44] 60 #[sv]).run Try.prog w.drew = .ok p w' → (Builtin.unsafeString_ #[60, 3] 9 #[p, .int .i64 n]).run Try.prog w' = .ok (.string ⟨l.toArray⟩) w'' →
        HR g (hp.set id (some (cs.set (o + 1) (.sl .u8 (.may false) l)))) w'' ∧ FR g hp w g (hp.set id (some (cs.set (o + 1) (.sl .u8 (.may false) l)))) w'' → l.length ≤ maxI →
        Calls Try.prog 27 ⟨[.pointer (some ⟨g.ρ id, o, none⟩)]⟩ w fun e w' => ∃ cv g', e = .returned cv ∧ HR g' (hp.set id (some (cs.set (o + 1) (.sl .u8 (.may false) l)))) w' ∧ FR g hp w g' (hp.set id (some (cs.set (o + 1) (.sl .u8 (.may false) l)))) w' ∧ VRel g'.I g'.ρ (hp.set id (some (cs.set (o + 1) (.sl .u8 (.may false) l)))).length w' (.str l) cv ∧ OwnOK g' w' .res (.str l) cv := by
      intro p w' w'' n hn hex hcl hSD hUS hfin hmx
      refine (st_walk (g.ρ id) o n sv p ⟨l.toArray⟩ w w' hcell hcl hex hSD w'' hUS).mono ?_
      rintro e x ⟨rfl, rfl⟩
      exact ⟨_, g, rfl, hfin.1, hfin.2, .str _ _ (by simp) (by simpa [ByteArray.size] using hmx), by simp [OwnOK]⟩
    cases hv with
    | sle _ _ ad hne => exact absurd rfl hne
    | sln k o =>
      refine res (.pointer none) w.drew w.drew 0 rfl ⟨_, _, rfl⟩ hcell rfl (Lib.run_unsafeString_none _ _ _ _ _) (fin _ (fun _ _ _ => rfl) (Nat.le_refl _) rfl rfl rfl (fun _ _ _ => rfl)) (by simp)
    | sl k oo xs b off len cap hl hcp hm hf f hI hw hvv =>
      obtain ⟨u1, ⟨arr', e', fz, u2, u3, u4⟩, u5⟩ := ho
      have he' : e' = byteT Try.prog := (u4 rfl).trans hβ
      have hsh : w.drew.shape? b = some (byteT Try.prog, arr'.size) := by
        have : w.drew.heap[b]? = some (.cells arr' e' fz) := u2
        simp [World.shape?, this, he']
      have hsz : EK.u8.sz = 1 := rfl
      simp only [hsz, Nat.mul_one] at u3 u5 hw hI
      subst hl
      by_cases h0 : l = []
      · subst h0
        by_cases hc0 : cap = 0
        · subst hc0
          have f := alloc_facts w.drew (.view ⟨b, off, none⟩ (byteT Try.prog))
          refine res _ _ _ 0 rfl ⟨_, _, rfl⟩ ?_ (Lib.run_unsafeSliceData_zero w.drew _ _ (byteT Try.prog) byteElem ⟨b, off, none⟩ 0 _ hsh) (Lib.run_unsafeString_none _ _ _ _ _) (fin _ ?_ ?_ rfl rfl rfl ?_) (by simp)
          · have hlt' : g.ρ id < w.heap.size := (Array.getElem?_eq_some_iff.1 h1).1
            have := f.2.1 (g.ρ id) hlt'
            unfold World.cell? at hcell ⊢
            rw [this]
            exact hcell
          · intro b' j hb'
            have := f.2.1 b' hb'
            unfold World.cell?
            rw [this]
            rfl
          · rw [f.1]; exact Nat.le_succ _
          · intro b' hb' _
            exact f.2.1 b' hb'
        · refine res _ w.drew _ 0 rfl ⟨_, _, rfl⟩ hcell (Lib.run_unsafeSliceData_row _ _ _ _ _ _ hc0) (Lib.run_unsafeString_none _ _ _ _ _) (fin _ (fun _ _ _ => rfl) (Nat.le_refl _) rfl rfl rfl (fun _ _ _ => rfl)) (by simp)
      · have hlen0 : l.length ≠ 0 := by simpa using h0
        refine res _ w.drew _ l.length rfl ⟨_, _, rfl⟩ hcell (Lib.run_unsafeSliceData_row _ _ _ _ _ _ (by omega)) (run_unsafeString_at _ _ _ _ _ byteElem byteCells1 b off arr'.size hsh l h0 (by omega) (by unfold maxI at hm; omega) ?_) (fin _ ?_ ?_ ?_ ?_ ?_ ?_) (by omega)
        · intro j x hj
          have hx := hw j x 0 hj (by simp [enc])
          have hr := hvv j x 0 _ hj (by simp [enc]; rfl)
          generalize f j 0 = z at hx hr
          cases hr
          by_cases hj0 : j = 0
          · subst hj0; simpa [Addr.add] using hx
          · simpa [Addr.add, hj0] using hx
        · intro b j _; rw [freeze_cell]; rfl
        · rw [freeze_size]; exact Nat.le_refl _
        · exact (freeze_rest _ _ _).1
        · exact (freeze_rest _ _ _).2.1
        · exact (freeze_rest _ _ _).2.2
        · intro b' hb' hne
          rw [freeze_heap _ _ _ _ (hne _ _ _ rfl hlen0)]; rfl
  | ⟨[]⟩, hlen, _ => simp at hlen
  | ⟨_ :: _ :: _⟩, hlen, _ => simp at hlen
end Go.Proofs.Ytifmekddikapeaa
