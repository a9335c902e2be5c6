import Derived.Test.YtehknfijojlddaaDoorChecked
import Derived.KernelRfl
import Derived.WalkKit
import Derived.WalkSpells
import Derived.Laws.Externs
import Derived.Lib.Bytealg
import Derived.Test.YtehknfijojlddaaDoorZ01
noncomputable section
namespace Go.AM
set_option autoImplicit false
set_option linter.unusedVariables false
theorem HR.other {g : Gh} {hp : List ab} {w w' : World} (h : HR g hp w) (hs : w.heap.size ≤ w'.heap.size)
  (hc : ∀ b j, b < w.heap.size → w'.cell? ⟨b, j, none⟩ = w.cell? ⟨b, j, none⟩)
  (ho : ∀ (id : Nat) cs, hp[id]? = some (some cs) → w'.heap[g.ρ id]? = w.heap[g.ρ id]?)
  (hw : ∀ (id j : Nat) cs c cv, hp[id]? = some (some cs) → (cellsOf cs)[j]? = some c → aa g w (.cell id j) c cv → aa g w' (.cell id j) c cv) :
  HR g hp w' ∧ Up g.I g.ρ hp.length w g.I g.ρ hp.length w' := by
 have hlt : ∀ b j, g.I b j → b < w.heap.size := by
  intro b j hi
  have := h.exI b j hi
  rcases Nat.lt_or_ge b w.heap.size with h' | h'
  ·exact h'
  ·simp [World.cell?, Array.getElem?_eq_none h'] at this
 have u : Up g.I g.ρ hp.length w g.I g.ρ hp.length w' := ⟨fun _ _ h => h, fun b j hi => hc b j (hlt b j hi), fun _ _ => rfl, Nat.le_refl _⟩
 refine ⟨⟨?_, h.apart, h.notI, h.notO, fun b j hi => by rw [hc b j (hlt b j hi)]; exact h.exI b j hi, fun b o hO => Nat.lt_of_lt_of_le (h.oLt b o hO) hs⟩, u⟩
 intro id cs hid
 obtain ⟨arr, e, fz, h1, h2⟩ := h.obj id cs hid
 exact ⟨arr, e, fz, (ho id cs hid).trans h1, h2.len, h2.plain, h2.typed, h2.cold, h2.one, fun j c cv hc hv => (h2.rel j c cv hc hv).up u, fun j c cv hc hv => hw id j cs c cv hid hc (h2.own j c cv hc hv), h2.bn⟩
theorem HR.disownCell {g : Gh} {hp : List ab} {w : World} (h : HR g hp w) {id j : Nat} {cs : List V} {k : EK} {o : Fl} {xs : List (Ty k)} (hid : hp[id]? = some (some cs)) (hj : cs[j]? = some (.sl k o xs)) :
  HR g (hp.set id (some (cs.set j (.sl k (.may false) xs)))) w := by
 have hl : id < hp.length := (List.getElem?_eq_some_iff.1 hid).1
 have hjl : j < cs.length := (List.getElem?_eq_some_iff.1 hj).1
 have key : ∀ (i : Nat) c, (hp.set id (some (cs.set j (.sl k (.may false) xs))))[i]? = some (some c) → ∃ c', hp[i]? = some (some c') ∧ ((i ≠ id ∧ c = c') ∨ (i = id ∧ c' = cs ∧ c = cs.set j (.sl k (.may false) xs))) := by
  intro i c hi
  rw [List.getElem?_set] at hi
  split at hi
  ·rename_i e; subst e
   exact ⟨cs, hid, .inr ⟨rfl, rfl, by simpa using hi.symm⟩⟩
  ·rename_i e
   exact ⟨c, hi, .inl ⟨fun h => e h.symm, rfl⟩⟩
 refine ⟨?_, ?_, ?_, ?_, h.exI, h.oLt⟩
 ·intro i c hi
  obtain ⟨c', hc', r⟩ := key i c hi
  obtain ⟨arr, e, fz, h1, h2'⟩ := h.obj i c' hc'
  rcases r with ⟨hne, rfl⟩ | ⟨rfl, rfl, rfl⟩
  ·rw [List.length_set]
   exact ⟨arr, e, fz, h1, h2'⟩
  ·obtain ⟨rfl, h2⟩ := h2'.low (Go.Proofs.YtehknfijojlddaaDoor.row_cell hj rfl)
   refine ⟨arr, e, (0, 0), h1, bF.high ⟨by simpa using h2.len, ?_, ?_, ?_, ?_⟩⟩
   ·intro c hc
    rcases List.mem_or_eq_of_mem_set hc with h' | h'
    ·exact h2.one c h'
    ·subst h'; rfl
   ·intro i c cv hc hv
    rw [List.length_set]
    rw [List.getElem?_set] at hc
    split at hc
    ·rename_i e; subst e
     simp only [Option.some.injEq] at hc
     subst hc
     exact (h2.rel j _ cv hj hv).own (by simp) (by simp)
    ·exact h2.rel i c cv hc hv
   ·intro i c cv hc hv
    rw [List.getElem?_set] at hc
    split at hc
    ·rename_i e; subst e
     simp only [Option.some.injEq] at hc
     subst hc
     simp [aa]
    ·exact h2.own i c cv hc hv
   ·intro i E n hc
    rw [List.getElem?_set] at hc
    split at hc
    ·rename_i e; subst e
     simp at hc
    ·exact h2.bn i E n hc
 ·intro i i' c c' hi hi' hne
  obtain ⟨d, hd, _⟩ := key i c hi
  obtain ⟨d', hd', _⟩ := key i' c' hi'
  exact h.apart i i' d d' hd hd' hne
 ·intro i c hi
  obtain ⟨d, hd, _⟩ := key i c hi
  exact h.notI i d hd
 ·intro i c hi
  obtain ⟨d, hd, _⟩ := key i c hi
  exact h.notO i d hd
end Go.AM
namespace Go.Proofs.YtehknfijojlddaaDoor
open Go.AM Go.RowKit
set_option autoImplicit false
set_option linter.unusedVariables false
theorem fY {P : Program} {e : TypeId} (hc : P.cellsOf e = 1) (count off n : Nat) (hn : off + n ≤ count) : liesAt P P.depth e count off e n = true := by
 have hd : P.depth = (2 * (P.types.size + Made.depth) + 1) + 1 := rfl
 rw [hd]
 simp only [liesAt, Bool.or_eq_true]
 left
 rw [hd]
 simp [rowAt, hc, hn, sameLayout, Nat.mod_one]
theorem cR {P : Program} (w : World) (pt it ty e : TypeId) (hp : P.underlying pt = some (.pointer e)) (hc : P.cellsOf e = 1) (g off cells : Nat) (hsh : w.shape? g = some (e, cells)) (l : List UInt8) (h0 : l ≠ []) (hn : off + l.length ≤ cells) (h63 : l.length ≤ 9223372036854775807)
  (hcell : ∀ j x, l[j]? = some x → w.cell? ((⟨g, off, none⟩ : Addr).add j) = some (.int .u8 x.toNat)) :
  (Builtin.unsafeString_ #[pt, it] ty #[.pointer (some ⟨g, off, none⟩), .int .i64 l.length]).run P w = .ok (.string ⟨l.toArray⟩) (w.freeze ⟨g, off, none⟩ l.length) := by
 have hl : l.length ≠ 0 := by simpa using h0
 have hlb := Lib.run_loadBytes (P := P) w l ⟨g, off, none⟩ .empty hcell
 have hlies := fY (P := P) hc (cells / P.cellsOf e) off l.length (by rw [hc]; simpa using hn)
 have h63' : ¬ (9223372036854775807 : Int) < (l.length : Int) := by omega
 have hmax : IntKind.i64.max = 9223372036854775807 := rfl
 have hneg : ¬ (l.length : Int) < 0 := by omega
 show (asInt (.int .i64 l.length) >>= _ : Sem Value).run P w = _
 simp [asInt, asIntOf, hmax, h63', hneg, hl, variablesAt, hsh, elemOf, run_underlying hp, hlies, hlb]
set_option maxHeartbeats 2000000 in
set_option maxRecDepth 100000 in
theorem gH (b o n : Nat) (v p : Value) (s : ByteArray) (w w' : World) (h1 : w.drew.cell? ⟨b, o + 1, none⟩ = some v) (h1' : w'.cell? ⟨b, o + 1, none⟩ = some v) (hv : ∃ ad cap, v = .slice ad n cap)
  (hSD : (Builtin.unsafeSliceData_ #[105] 125 #[v]).run Tryd.prog w.drew = .ok p w')
  (w'' : World) (hUS : (Builtin.unsafeString_ #[125, 3] 9 #[p, .int .i64 n]).run Tryd.prog w' = .ok (.string s) w'') :
  Calls Tryd.prog 69 #[.pointer (some ⟨b, o, none⟩)] w fun e x => e = .returned (.string s) ∧ x = w'' := by
 obtain ⟨ad, cap, rfl⟩ := hv
 go_enter Tryd.func69, Tryd.ntmps69
 go_wp2
 go_region
 all_goals (go_wp2; go_ret; exact ⟨rfl, rfl⟩)
theorem eS : Tryd.prog.underlying 125 = some (.pointer (aD Tryd.prog)) := by kernel_rfl
theorem fC : Tryd.prog.cellsOf (aD Tryd.prog) = 1 := by kernel_rfl
theorem e8 (w : World) (a : Addr) (n b : Nat) (h : b ≠ a.block) : (w.freeze a n).heap[b]? = w.heap[b]? := by
 unfold World.freeze
 split
 ·rfl
 ·rw [Array.getElem?_modify, if_neg (fun e => h e.symm)]
theorem e9 (w : World) (a : Addr) (n b j : Nat) : (w.freeze a n).cell? ⟨b, j, none⟩ = w.cell? ⟨b, j, none⟩ := by
 unfold World.freeze
 by_cases hn : n = 0
 ·simp only [hn, if_true]
 ·simp only [hn, if_false, World.cell?, Array.getElem?_modify]
  by_cases e : a.block = b
  ·subst e
   simp only [if_true]
   cases hb : w.heap[a.block]? with
   | none => rfl
   | some o => cases o <;> rfl
  ·simp only [e, if_false]
theorem fa (w : World) (a : Addr) (n : Nat) : (w.freeze a n).heap.size = w.heap.size := by
 unfold World.freeze
 split <;> simp
theorem cr (w : World) (a : Addr) (n : Nat) : (w.freeze a n).os = w.os ∧ (w.freeze a n).tape = w.tape ∧ (w.freeze a n).output = w.output := by
 unfold World.freeze
 split <;> simp
theorem hV {id o : Nat} {cs : List V} {hp : List ab} {l : List UInt8} (hid : hp[id]? = some (some cs)) (hc : cs[o + 1]? = some (.sl .u8 .own l)) :
  aT Tryd.prog 69 [.ptr id o] hp (.str l) (hp.set id (some (cs.set (o + 1) (.sl .u8 (.may false) l)))) := by
 intro w g cargs hβ hhr hlen hbare hrel
 match cargs, hlen, hrel with
 | ⟨[cv]⟩, hlen, hrel =>
   have r := hrel 0 (.ptr id o) cv rfl rfl
   cases r with
   | ptr _ _ hlt =>
   obtain ⟨arr, e, fz, h1, h2'⟩ := hhr.obj id cs hid
   obtain ⟨rfl, h2⟩ := h2'.low (row_cell hc rfl)
   have hoc : o + 1 < arr.size := by
    have := (List.getElem?_eq_some_iff.1 hc).1
    rw [h2.len] at this
    exact this
   have hcell : w.cell? ⟨g.ρ id, o + 1, none⟩ = arr[o + 1]? := ac h1 (o + 1)
   obtain ⟨sv, hsv⟩ : ∃ sv, arr[o + 1]? = some sv := ⟨_, Array.getElem?_eq_getElem hoc⟩
   have hv := h2.rel (o + 1) _ sv hc hsv
   have ho := h2.own (o + 1) _ sv hc hsv
   rw [hsv] at hcell
   have hhr' := (hhr.disownCell hid hc).drew
   have hlen' : (hp.set id (some (cs.set (o + 1) (.sl .u8 (.may false) l)))).length = hp.length := by simp
   have hold : ∀ (i : Nat) c, (hp.set id (some (cs.set (o + 1) (.sl .u8 (.may false) l))))[i]? = some (some c) → ∃ c', hp[i]? = some (some c') := by
    intro i c hi
    rw [List.getElem?_set] at hi
    split at hi
    ·rename_i e; subst e; exact ⟨cs, hid⟩
    ·exact ⟨c, hi⟩
   have fin : ∀ (w'' : World), (∀ b j, b < w.heap.size → w''.cell? ⟨b, j, none⟩ = w.cell? ⟨b, j, none⟩) → w.heap.size ≤ w''.heap.size → w''.os = w.os → w''.tape = w.tape → w''.output = w.output →
     (∀ b, b < w.heap.size → (∀ ad len cap, sv = .slice (some ad) len cap → len ≠ 0 → b ≠ ad.block) → w''.heap[b]? = w.heap[b]?) →
     HR g (hp.set id (some (cs.set (o + 1) (.sl .u8 (.may false) l)))) w'' ∧ FR g hp w g (hp.set id (some (cs.set (o + 1) (.sl .u8 (.may false) l)))) w'' := by
    intro w'' e1 e2 e3 e4 e5 e6
    have hO : ∀ ad len cap, sv = .slice (some ad) len cap → g.O ad.block = some (.cell id (o + 1)) := by
     intro ad len cap e
     subst e
     exact ho.1
    obtain ⟨q1, q2⟩ := HR.other (w' := w'') (hhr.disownCell hid hc) e2 e1 (by
     intro i c hi
     obtain ⟨c', hc'⟩ := hold i c hi
     obtain ⟨arr', e', fz, p1, _⟩ := hhr.obj i c' hc'
     have hlt' : g.ρ i < w.heap.size := (Array.getElem?_eq_some_iff.1 p1).1
     refine e6 _ hlt' ?_
     intro ad len cap he _ hne
     have := hO ad len cap he
     rw [← hne, hhr.notO i c' hc'] at this
     cases this) (by
     intro i j cs' c cv hi hj hown
     by_cases hij : i = id ∧ j = o + 1
     ·obtain ⟨rfl, rfl⟩ := hij
      rw [List.getElem?_set, if_pos rfl, if_pos hlt] at hi
      simp only [Option.some.injEq] at hi
      subst hi
      have hco : o + 1 < cs.length := (List.getElem?_eq_some_iff.1 hc).1
      have hcc : (cs.set (o + 1) (V.sl .u8 (.may false) l))[o + 1]? = some (.sl .u8 (.may false) l) := List.getElem?_set_self hco
      rw [aW (row_cell hcc rfl), hcc] at hj
      simp only [Option.some.injEq] at hj
      subst hj
      simp [aa]
     ·refine ap hown rfl (fun b j' hI => ⟨hI, e1 b j' ?_⟩) (fun b hO' => ⟨hO', e6 b (hhr.oLt b _ hO') ?_, fun _ h => h⟩)
      ·have hs := hhr.exI b j' hI
       rcases Nat.lt_or_ge b w.heap.size with h' | h'
       ·exact h'
       ·simp [World.cell?, Array.getElem?_eq_none h'] at hs
      ·intro ad len cap he _ hne
       have := hO ad len cap he
       rw [← hne, hO'] at this
       simp only [Option.some.injEq, Occ.cell.injEq] at this
       exact hij this)
    refine ⟨q1, rfl, e3, e4, e5, e2, ?_, by rw [hlen'] at q2 ⊢; exact q2, fun _ _ _ _ _ h => h, fun _ _ _ h => h, ?_⟩
    ·intro b hb _ hO'
     refine e6 b hb ?_
     intro ad len cap he _ hne
     have := hO ad len cap he
     rw [← hne, hO'] at this
     cases this
    ·intro i c hi
     exact .inl (hold i c hi)
   have res : ∀ (p : Value) (w' w'' : World) (n : Nat), l.length = n → (∃ ad cap, sv = .slice ad n cap) → w'.cell? ⟨g.ρ id, o + 1, none⟩ = some sv →
     (Builtin.unsafeSliceData_ #[105] 125 #[sv]).run Tryd.prog w.drew = .ok p w' → (Builtin.unsafeString_ #[125, 3] 9 #[p, .int .i64 n]).run Tryd.prog w' = .ok (.string ⟨l.toArray⟩) w'' →
     HR g (hp.set id (some (cs.set (o + 1) (.sl .u8 (.may false) l)))) w'' ∧ FR g hp w g (hp.set id (some (cs.set (o + 1) (.sl .u8 (.may false) l)))) w'' → l.length ≤ aS →
     Calls Tryd.prog 69 ⟨[.pointer (some ⟨g.ρ id, o, none⟩)]⟩ w fun e w' => ∃ cv g', e = .returned cv ∧ HR g' (hp.set id (some (cs.set (o + 1) (.sl .u8 (.may false) l)))) w' ∧ FR g hp w g' (hp.set id (some (cs.set (o + 1) (.sl .u8 (.may false) l)))) w' ∧ VRel g'.I g'.ρ (hp.set id (some (cs.set (o + 1) (.sl .u8 (.may false) l)))).length w' (.str l) cv ∧ aa g' w' .res (.str l) cv := by
    intro p w' w'' n hn hex hcl hSD hUS hfin hmx
    refine (gH (g.ρ id) o n sv p ⟨l.toArray⟩ w w' hcell hcl hex hSD w'' hUS).mono ?_
    rintro e x ⟨rfl, rfl⟩
    exact ⟨_, g, rfl, hfin.1, hfin.2, .str _ _ (by simp) (by simpa [ByteArray.size] using hmx), by simp [aa]⟩
   cases hv with
   | sle _ _ ad hne => exact absurd rfl hne
   | sln k o =>
     refine res (.pointer none) w.drew w.drew 0 rfl ⟨_, _, rfl⟩ hcell rfl (Lib.run_unsafeString_none _ _ _ _ _) (fin _ (fun _ _ _ => rfl) (Nat.le_refl _) rfl rfl rfl (fun _ _ _ => rfl)) (by simp)
   | sl k oo xs b off len cap hl hcp hm hf f hI hw hvv =>
     obtain ⟨u1, ⟨arr', e', fz, u2, u3, u4⟩, u5⟩ := ho
     have he' : e' = aD Tryd.prog := (u4 rfl).trans hβ
     have hsh : w.drew.shape? b = some (aD Tryd.prog, arr'.size) := by
      have : w.drew.heap[b]? = some (.cells arr' e' fz) := u2
      simp [World.shape?, this, he']
     have hsz : EK.u8.sz = 1 := rfl
     simp only [hsz, Nat.mul_one] at u3 u5 hw hI
     subst hl
     by_cases h0 : l = []
     ·subst h0
      by_cases hc0 : cap = 0
      ·subst hc0
       have f := bz w.drew (.view ⟨b, off, none⟩ (aD Tryd.prog))
       refine res _ _ _ 0 rfl ⟨_, _, rfl⟩ ?_ (Lib.run_unsafeSliceData_zero w.drew _ _ (aD Tryd.prog) eS ⟨b, off, none⟩ 0 _ hsh) (Lib.run_unsafeString_none _ _ _ _ _) (fin _ ?_ ?_ rfl rfl rfl ?_) (by simp)
       ·have hlt' : g.ρ id < w.heap.size := (Array.getElem?_eq_some_iff.1 h1).1
        have := f.2.1 (g.ρ id) hlt'
        unfold World.cell? at hcell ⊢
        rw [this]
        exact hcell
       ·intro b' j hb'
        have := f.2.1 b' hb'
        unfold World.cell?
        rw [this]
        rfl
       ·rw [f.1]; exact Nat.le_succ _
       ·intro b' hb' _
        exact f.2.1 b' hb'
      ·refine res _ w.drew _ 0 rfl ⟨_, _, rfl⟩ hcell (Lib.run_unsafeSliceData_row _ _ _ _ _ _ hc0) (Lib.run_unsafeString_none _ _ _ _ _) (fin _ (fun _ _ _ => rfl) (Nat.le_refl _) rfl rfl rfl (fun _ _ _ => rfl)) (by simp)
     ·have hlen0 : l.length ≠ 0 := by simpa using h0
      refine res _ w.drew _ l.length rfl ⟨_, _, rfl⟩ hcell (Lib.run_unsafeSliceData_row _ _ _ _ _ _ (by omega)) (cR _ _ _ _ _ eS fC b off arr'.size hsh l h0 (by omega) (by unfold aS at hm; omega) ?_) (fin _ ?_ ?_ ?_ ?_ ?_ ?_) (by omega)
      ·intro j x hj
       have hx := hw j x 0 hj (by simp [enc])
       have hr := hvv j x 0 _ hj (by simp [enc]; rfl)
       generalize f j 0 = z at hx hr
       cases hr
       by_cases hj0 : j = 0
       ·subst hj0; simpa [Addr.add] using hx
       ·simpa [Addr.add, hj0] using hx
      ·intro b j _; rw [e9]; rfl
      ·rw [fa]; exact Nat.le_refl _
      ·exact (cr _ _ _).1
      ·exact (cr _ _ _).2.1
      ·exact (cr _ _ _).2.2
      ·intro b' hb' hne
       rw [e8 _ _ _ _ (hne _ _ _ rfl hlen0)]; rfl
 | ⟨[]⟩, hlen, _ => simp at hlen
 | ⟨_ :: _ :: _⟩, hlen, _ => simp at hlen
end Go.Proofs.YtehknfijojlddaaDoor
end
noncomputable section
namespace Go.Proofs.YtehknfijojlddaaDoor
open Go.AM
set_option autoImplicit false
set_option linter.unusedVariables false
set_option linter.unusedSimpArgs false
def d4 (E n o : Nat) : Bool := (E == 107 && n == 2 && o == 0)
theorem eh {E n o : Nat} (h : d4 E n o = true) : dv E n o = true := by
 simp only [d4, Bool.or_eq_true, Bool.and_eq_true, beq_iff_eq] at h
 obtain ⟨⟨rfl, rfl⟩, rfl⟩ := h; kernel_rfl
theorem getD_some {hp : List ab} {id : Nat} {cs : List V} (h : hp.getD id none = some cs) : hp[id]? = some (some cs) := by
 rw [List.getD_eq_getElem?_getD] at h
 cases hq : hp[id]? with
 | none => rw [hq] at h; simp at h
 | some x => rw [hq] at h; simpa using h
theorem bW {cs : List V} {o : Nat} {v : V} (h : cs.getD o .undef = v) (hv : v ≠ .undef) : cs[o]? = some v := by
 rw [List.getD_eq_getElem?_getD] at h
 cases hq : cs[o]? with
 | none => rw [hq] at h; exact absurd h.symm hv
 | some x => rw [hq] at h; simpa using h
def gWS (id o : Nat) (s : List UInt8) (hp : List ab) : Option (Bool × V × List ab) :=
 match hp.getD id none with
 | some cs => match cs.getD o .undef, cs.getD (o + 1) .undef with
   | .bn E n, .sl .u8 .own l => cond (d4 E n o) (some (decide (l.length + s.length ≤ 140737488355328), .tup [.int .i64 (s.length : Int), .nilif], hp.set id (some (cs.set (o + 1) (.sl .u8 .own (l ++ s)))))) none
   | _, _ => none
 | none => none
def gST (id o : Nat) (hp : List ab) : Option (Bool × V × List ab) :=
 match hp.getD id none with
 | some cs => match cs.getD (o + 1) .undef with
   | .sl .u8 .own l => some (true, .str l, hp.set id (some (cs.set (o + 1) (.sl .u8 (.may false) l))))
   | _ => none
 | none => none
def gWB (id o : Nat) (c : Int) (hp : List ab) : Option (Bool × V × List ab) :=
 match hp.getD id none with
 | some cs => match cs.getD o .undef, cs.getD (o + 1) .undef with
   | .bn E n, .sl .u8 .own l => cond (d4 E n o) (some (decide (l.length + 1 ≤ 140737488355328), .nilif, hp.set id (some (cs.set (o + 1) (.sl .u8 .own (l ++ [UInt8.ofNat c.toNat])))))) none
   | _, _ => none
 | none => none
theorem g8 {id o : Nat} {c : Int} {hp hp' : List ab} {v : V} (h : gWB id o c hp = some (true, v, hp')) : aT Tryd.prog 66 [.ptr id o, .int .u8 c] hp v hp' := by
 unfold gWB at h
 split at h
 ·rename_i cs hcs
  split at h
  ·rename_i E n l hb hl
   cases hlie : d4 E n o with
   | false => rw [hlie] at h; simp at h
   | true =>
     rw [hlie] at h
     simp only [cond_true, Option.some.injEq, Prod.mk.injEq, decide_eq_true_eq] at h
     obtain ⟨hlen, rfl, rfl⟩ := h
     exact hU (getD_some hcs) (bW hb (by simp)) (eh hlie) (bW hl (by simp)) hlen
  ·simp at h
 ·simp at h
theorem g9 {id o : Nat} {s : List UInt8} {hp hp' : List ab} {v : V} (h : gWS id o s hp = some (true, v, hp')) : aT Tryd.prog 68 [.ptr id o, .str s] hp v hp' := by
 unfold gWS at h
 split at h
 ·rename_i cs hcs
  split at h
  ·rename_i E n l hb hl
   cases hlie : d4 E n o with
   | false => rw [hlie] at h; simp at h
   | true =>
     rw [hlie] at h
     simp only [cond_true, Option.some.injEq, Prod.mk.injEq, decide_eq_true_eq] at h
     obtain ⟨hlen, rfl, rfl⟩ := h
     exact hR (getD_some hcs) (bW hb (by simp)) (eh hlie) (bW hl (by simp)) hlen
  ·simp at h
 ·simp at h
theorem hC {id o : Nat} {hp hp' : List ab} {v : V} (h : gST id o hp = some (true, v, hp')) : aT Tryd.prog 69 [.ptr id o] hp v hp' := by
 unfold gST at h
 split at h
 ·rename_i cs hcs
  split at h
  ·rename_i l hl
   simp only [Option.some.injEq, Prod.mk.injEq, true_and] at h
   obtain ⟨rfl, rfl⟩ := h
   exact hV (getD_some hcs) (bW hl (by simp))
  ·simp at h
 ·simp at h
def dO (Γ : aj) : aj := fun f vs hp =>
 if f = 68 then
  match vs with
  | [.ptr id o, .str s] => gWS id o s hp
  | _ => none
 else if f = 69 then
  match vs with
  | [.ptr id o] => gST id o hp
  | _ => none
 else if f = 66 then
  match vs with
  | [.ptr id o, .int .u8 c] => gWB id o c hp
  | _ => none
 else Γ f vs hp
theorem gj {Γ : aj} (hΓ : aH Tryd.prog Γ) : aH Tryd.prog (dO Γ) := by
 intro f vs hp v hp' h
 unfold dO at h
 split at h
 ·rename_i hf; subst hf
  split at h
  ·exact g9 h
  ·simp at h
 ·split at h
  ·rename_i hf; subst hf
   split at h
   ·exact hC h
   ·simp at h
  ·split at h
   ·rename_i hf; subst hf
    split at h
    ·exact g8 h
    ·simp at h
   ·exact hΓ _ _ _ _ _ h
theorem fD {Γ : aj} (hΓ : aE Γ []) : aE (dO Γ) [68, 69, 66] := by
 refine ⟨?_, ?_⟩
 ·intro f vs hp hf
  simp only [List.contains_cons, List.contains_nil, Bool.or_false, Bool.or_eq_false_iff, beq_eq_false_iff_ne, ne_eq, decide_eq_true_eq, Bool.not_eq_true, List.mem_cons, List.not_mem_nil, not_or, not_false_eq_true, or_false] at hf
  simp only [dO, hf, if_false]
  exact hΓ.pure f vs hp (by simp)
 ·intro f vs hp c v hp' hf h
  simp only [List.contains_cons, List.contains_nil, Bool.or_false, Bool.or_eq_true, beq_iff_eq] at hf
  omega
end Go.Proofs.YtehknfijojlddaaDoor
end
noncomputable section
namespace Go.Proofs.YtehknfijojlddaaDoor
open Go.AM
set_option autoImplicit false
set_option linter.unusedVariables false
set_option maxRecDepth 100000
abbrev aP : FuncId := 89
abbrev el : FuncId := 39
abbrev be : FuncId := 67
def bO : Nat → List V → Option (Bool × V) := fun f vs => match f, vs with
 | 89, [.str a0, .int .u8 a1] => some (true, .int .i64 (aK a0 a1))
 | _, _ => none
def aR : aj := (cK bO)
theorem ck : aE aR [] := (dJ _ _)
theorem ct (h_internal_stringslite_IndexByte : ∀ (a0 : Bs) (a1 : Int), ba Tryd.prog aP [.str a0, .int .u8 a1] (.int .i64 (aK a0 a1))) : aH Tryd.prog aR := by
 intro f vs hp v hp' h0
 obtain ⟨h, he⟩ := eb h0
 subst he
 unfold bO at h
 split at h
 ·simp only [Option.some.injEq, Prod.mk.injEq] at h
  obtain ⟨hc, rfl⟩ := h
  exact ((h_internal_stringslite_IndexByte _ _).dim rfl).frame rfl rfl _
 ·simp at h
def bK : IR := Rs [Mi 4 0] (Rs [Mv 5 0, Mv 6 1, Ca 7 89 [5, 6], Mv 4 7] .ret)
def bL : List RV := [.t 4]
theorem cD : (af Tryd.prog [] 0 bK (Tryd.f67.body.getD .skip) && bo Tryd.prog bL Tryd.f67.results.toList) = true := by kernel_rfl
theorem cu : Tryd.f67.body = some (Tryd.f67.body.getD .skip) := by kernel_rfl
def cO (N : Nat) (p0 : Bs) (p1 : Int)  : Ro :=
 some (.int .i64 (aK p0 p1), [])
def bM (N : Nat) (p0 : Bs) (p1 : Int) : Ro := cO N p0 p1
theorem cE (N : Nat) (p0 : Bs) (p1 : Int) : callF aR N 8 bL bK [.str p0, .int .u8 p1] [] = bM N p0 p1 := by kernel_rfl
theorem cP (hΓ : aH Tryd.prog aR) (N : Nat) (p0 : Bs) (p1 : Int) {v : V} {hp : List ab} (h : bM N p0 p1 = some (v, hp)) : ba Tryd.prog be [.str p0, .int .u8 p1] v := by
 have hc := cD
 simp only [Bool.and_eq_true] at hc
 exact ⟨hp, cB hΓ ck Tryd.func67 cu hc.1 hc.2 (by decide) ((cE N p0 p1).trans h)⟩
def cQ : Nat → List V → Option (Bool × V) := fun f vs => match f, vs with
 | 67, [.str a0, .int .u8 a1] => some (true, .int .i64 (aK a0 a1))
 | _, _ => none
def aG : aj := (dO (cK cQ))
theorem c9 : aE aG [68, 69, 66] := ((fD (dJ _ _)).mono (by decide) (by decide))
theorem dw (h_strings_IndexByte : ∀ (a0 : Bs) (a1 : Int), ba Tryd.prog be [.str a0, .int .u8 a1] (.int .i64 (aK a0 a1))) : aH Tryd.prog aG := by
 refine gj ?_
 intro f vs hp v hp' h0
 obtain ⟨h, he⟩ := eb h0
 subst he
 unfold cQ at h
 split at h
 ·simp only [Option.some.injEq, Prod.mk.injEq] at h
  obtain ⟨hc, rfl⟩ := h
  exact ((h_strings_IndexByte _ _).dim rfl).frame rfl rfl _
 ·simp at h
def b4 : IR := Rs [Bi 11 .lss 10 9] (Sq (Cn 11 .skip (.exit 0)) (Sq (.block 1 (Rs [Mv 12 10, Mv 4 12] (Rs [Mv 13 0, Mv 14 4, Pp (.idx 15 13 14), Mv 5 15] (Rs [Mv 16 5, Ca 17 67 [kS [34, 92, 8, 12, 10, 13, 9], 16], Mv 6 17] (Rs [Mv 18 6, Bc 19 .geq 18 0] (Cn 19 (Rs [Ca 20 66 [3, .c (.int .u8 92)]] (Rg [Mv 21 6, Pp (.idx 22 (kS [34, 92, 98, 102, 110, 114, 116]) 21), Ca 23 66 [3, 22]])) (Rs [Mv 24 5, Pp (.bin 25 .lss 24 (.c (.int .u8 32)))] (Cn 25 (Rs [Ca 26 68 [3, kS [92, 117, 48, 48]]] (Rs [Mv 27 5, Pp (.bin 28 .shr 27 (kU 4)), Pp (.idx 29 (kS [48, 49, 50, 51, 52, 53, 54, 55, 56, 57, 97, 98, 99, 100, 101, 102]) 28), Ca 30 66 [3, 29]] (Rg [Mv 31 5, Pp (.bin 32 .and 31 (.c (.int .u8 15))), Pp (.idx 33 (kS [48, 49, 50, 51, 52, 53, 54, 55, 56, 57, 97, 98, 99, 100, 101, 102]) 32), Ca 34 66 [3, 33]]))) (Rg [Mv 35 5, Ca 36 66 [3, 35]]))))))))) (Rg [Bc 37 .add 10 1, Mv 10 37])))
def b5 : IR := Rs [Ca 38 66 [3, .c (.int .u8 34)]] (Rs [Ca 39 69 [3], Mv 2 39] .ret)
def bS : IR := Rs [Ms 2 []] (Rs [Pp (.newb 3 [.bn 107 2, .sl .u8 .own ([] : Bs)])] (Rs [Ca 7 66 [3, .c (.int .u8 34)]] (Sq (Rs [Mv 8 0, Pp (.lens 9 8), Mi 10 0] (.block 0 (.loop [0, 3, 9, 10, 1000000] 1 b4))) b5)))
def bs : List RV := [.t 2]
theorem dP : (af Tryd.prog [68, 69, 66] 0 bS (Tryd.f39.body.getD .skip) && bo Tryd.prog bs Tryd.f39.results.toList) = true := by kernel_rfl
theorem dx : Tryd.f39.body = some (Tryd.f39.body.getD .skip) := by kernel_rfl
def dQ (R : IR → (Ex → St → Ro) → St → Ro) (again0 : St → Ro) : Ex → St → Ro := (eo again0 [0, 3, 9, 10, 1000000] 1 (cw 0 (kseq (R b5) (fin bs))))
abbrev a8 : Type := (Bs × Int × Int × Bs)
def aQ (x : a8) : St := { env := (.str x.1 :: .undef :: .undef :: .ptr 0 0 :: (U 5 (.int .i64 x.2.1 :: .int .i64 x.2.2.1 :: (U 29 [])))), hp := [some [.bn 107 2, .sl .u8 .own x.2.2.2]] }
def bN (N : Nat) : (St → Ro) → St → Ro := fun again0 s => run aG N b4 (dQ (run aG N) again0) s
def ao (N : Nat) (again0 : a8 → Ro) (x : a8) : Ro :=
 let v0 : Bs := x.1
 let v9 : Int := x.2.1
 let v10 : Int := x.2.2.1
 let o0_1 : Bs := x.2.2.2
 cond (decide (v10 < v9)) (
  chk ((decide (0 ≤ v10) && decide (v10 < ↑(List.length v0)))) (
   let x2 : Int := (↑(UInt8.toNat (List.getD v0 (Int.toNat v10) 0)) : Int)
   let x3 : Int := (aK ([34, 92, 8, 12, 10, 13, 9] : Bs) x2)
   cond (decide (0 ≤ x3)) (
    chk (decide (List.length o0_1 + 1 ≤ 140737488355328)) (
     chk ((decide (0 ≤ x3) && decide (x3 < ↑(List.length ([34, 92, 98, 102, 110, 114, 116] : Bs))))) (
      let x4 : Int := (↑(UInt8.toNat (List.getD ([34, 92, 98, 102, 110, 114, 116] : Bs) (Int.toNat x3) 0)) : Int)
      chk (decide (List.length (o0_1 ++ [UInt8.ofNat (Int.toNat 92)]) + 1 ≤ 140737488355328)) (
       let x5 : Int := (IntKind.wrap .i64 (v10 + 1))
       again0 (v0, v9, x5, ((o0_1 ++ [UInt8.ofNat (Int.toNat 92)]) ++ [UInt8.ofNat (Int.toNat x4)])))))) (
    cond (decide (x2 < 32)) (
     chk (decide (List.length o0_1 + List.length ([92, 117, 48, 48] : Bs) ≤ 140737488355328)) (
      let x6 : Int := (↑(List.length ([92, 117, 48, 48] : Bs)) : Int)
      chk ((decide (0 ≤ (bX .u8 x2 4)) && decide ((bX .u8 x2 4) < ↑(List.length ([48, 49, 50, 51, 52, 53, 54, 55, 56, 57, 97, 98, 99, 100, 101, 102] : Bs))))) (
       let x7 : Int := (↑(UInt8.toNat (List.getD ([48, 49, 50, 51, 52, 53, 54, 55, 56, 57, 97, 98, 99, 100, 101, 102] : Bs) (Int.toNat (bX .u8 x2 4)) 0)) : Int)
       chk (decide (List.length (o0_1 ++ ([92, 117, 48, 48] : Bs)) + 1 ≤ 140737488355328)) (
        chk ((decide (0 ≤ (ax .and .u8 x2 15)) && decide ((ax .and .u8 x2 15) < ↑(List.length ([48, 49, 50, 51, 52, 53, 54, 55, 56, 57, 97, 98, 99, 100, 101, 102] : Bs))))) (
         let x8 : Int := (↑(UInt8.toNat (List.getD ([48, 49, 50, 51, 52, 53, 54, 55, 56, 57, 97, 98, 99, 100, 101, 102] : Bs) (Int.toNat (ax .and .u8 x2 15)) 0)) : Int)
         chk (decide (List.length ((o0_1 ++ ([92, 117, 48, 48] : Bs)) ++ [UInt8.ofNat (Int.toNat x7)]) + 1 ≤ 140737488355328)) (
          let x9 : Int := (IntKind.wrap .i64 (v10 + 1))
          again0 (v0, v9, x9, (((o0_1 ++ ([92, 117, 48, 48] : Bs)) ++ [UInt8.ofNat (Int.toNat x7)]) ++ [UInt8.ofNat (Int.toNat x8)])))))))) (
     chk (decide (List.length o0_1 + 1 ≤ 140737488355328)) (
      let x10 : Int := (IntKind.wrap .i64 (v10 + 1))
      again0 (v0, v9, x10, (o0_1 ++ [UInt8.ofNat (Int.toNat x2)]))))))) (
  chk (decide (List.length o0_1 + 1 ≤ 140737488355328)) (
   let x11 : Bs := (o0_1 ++ [UInt8.ofNat (Int.toNat 34)])
   some (.str x11, [some [.bn 107 2, .sl .u8 (.may false) (o0_1 ++ [UInt8.ofNat (Int.toNat 34)])]])))
theorem dy (N : Nat) : ∀ (again0 : St → Ro) (x : a8), bN N again0 (aQ x) = ao N (fun y => again0 (aQ y)) x := by
 intro again0 x
 kernel_rfl
def bb (N : Nat) (p0 : Bs) (q0 : a8 → Ro) : Ro :=
 chk (decide (List.length ([] : Bs) + 1 ≤ 140737488355328)) (
  let x1 : Int := (↑(List.length p0) : Int)
  q0 (p0, x1, 0, (([] : Bs) ++ [UInt8.ofNat (Int.toNat 34)])))
def bu (N : Nat) (p0 : Bs) : Ro := bb N p0 (fun z => cF N (ao N) z)
def em (N : Nat) : List (Nat × (St → Ro)) := cq aG N bS (fin bs) ++ []
theorem dR (N : Nat) (p0 : Bs) : callF aG N 40 bs bS [.str p0] [] = bu N p0 :=
 (g4 (em N) (by kernel_rfl) rfl (fun C => bb N p0 (fun z => C 1000000 (aQ z))) (fun C => by kernel_rfl)).trans (Eq.trans (b := bb N p0 (fun z => b7 N (bN N) (aQ z))) (by kernel_rfl) (congrArg (bb N p0) (funext fun z => fc (aQ) (bN N) (ao N) (dy N) N z)))
theorem d5 (hΓ : aH Tryd.prog aG) (N : Nat) (p0 : Bs) {v : V} {hp : List ab} (h : bu N p0 = some (v, hp)) : ba Tryd.prog el [.str p0] v := by
 have hc := dP
 simp only [Bool.and_eq_true] at hc
 exact ⟨hp, cB hΓ c9 Tryd.func39 dx hc.1 hc.2 (by decide) ((dR N p0).trans h)⟩
end Go.Proofs.YtehknfijojlddaaDoor
end
noncomputable section
namespace Go.Proofs.YtehknfijojlddaaDoor
open Go.AM Go.RowKit
set_option autoImplicit false
set_option linter.unusedVariables false
theorem gI (s : ByteArray) (c : Int) (w : World) : (callFunc 110 #[.string s, .int .u8 c]).run Tryd.prog w = .ok (.value (.int .i64 (Lib.indexByte s.data.toList c.toNat.toUInt8))) w := by
 rw [run_callFunc_extern Tryd.func110 (by kernel_rfl) (by kernel_rfl) (by kernel_rfl) (e := Extern.BytealgIndexByte.indexByte) (by kernel_rfl)]
 rw [Lib.run_indexByteString]
 rfl
set_option maxHeartbeats 1000000 in
set_option maxRecDepth 100000 in
theorem gJ (s : ByteArray) (c : Int) (w : World) : Calls Tryd.prog 89 #[.string s, .int .u8 c] w fun e w' => e = .returned (.int .i64 (Lib.indexByte s.data.toList c.toNat.toUInt8)) ∧ w' = w := by
 go_enter Tryd.func89, Tryd.ntmps89
 go_wp2
 rw [gI]
 rw [Oper.upon_value]
 go_wp2
 go_ret
 exact ⟨rfl, rfl⟩
theorem eT : ∀ (l : List UInt8) (c : Nat), c < 256 → Lib.indexByte l c.toUInt8 = aK l (c : Int) ∧ -1 ≤ aK l (c : Int) ∧ aK l (c : Int) ≤ (l.length : Int)
 | [], c, h => by simp [Lib.indexByte, aK, cX]
 | b :: l, c, h => by
   have ih := eT l c h
   have hb : (b == c.toUInt8) = decide (b.toNat = c) := by
    have e : (c.toUInt8).toNat = c := by simp [Nat.toUInt8]; omega
    by_cases hc : b.toNat = c
    ·have : b = c.toUInt8 := by apply UInt8.toNat_inj.1; rw [e]; exact hc
     simp [this, e]
    ·have : b ≠ c.toUInt8 := by rintro rfl; exact hc e
     simp [this, hc]
   simp only [Lib.indexByte, aK, cX, Int.toNat_natCast, hb] at ih ⊢
   by_cases hc : b.toNat = c
   ·simp [hc]; omega
   ·simp only [hc, decide_false, if_false, Bool.false_eq_true]
    cases hi : cX l c with
    | none => rw [hi] at ih; simp at ih ⊢; simp [ih]; omega
    | some k =>
      rw [hi] at ih
      simp only [Option.map_some] at ih ⊢
      rw [ih.1]
      have : ((k : Int) == -1) = false := by simp
      rw [this]
      simp
      omega
theorem bv (s : List UInt8) (c : Int) : ba Tryd.prog aP [.str s, .int .u8 c] (.int .i64 (aK s c)) := by
 refine ⟨[], ?_⟩
 intro w g cargs hβ hhr hlen hbare hrel
 match cargs, hlen, hrel with
 | ⟨[c0, c1]⟩, hlen, hrel =>
   have r0 := hrel 0 (.str s) c0 rfl rfl
   have r1 := hrel 1 (.int .u8 c) c1 rfl rfl
   cases r0 with
   | str _ b hl hm =>
   cases r1 with
   | int _ _ hr =>
   subst hl
   refine (gJ b c w).mono ?_
   rintro e w' ⟨rfl, rfl⟩
   obtain ⟨n, rfl⟩ : ∃ n : Nat, c = (n : Int) := ⟨c.toNat, by have : (0 : Int) ≤ c := hr.1; omega⟩
   have hn : n < 256 := by have : (n : Int) ≤ 255 := hr.2; omega
   have h := eT b.data.toList n hn
   have hm' : (b.data.toList.length : Int) ≤ 9223372036854775807 := by
    have h1 : b.size ≤ 9223372036854775807 := hm
    have h2 : b.data.toList.length = b.size := by simp
    omega
   refine ⟨_, g, rfl, hhr, FR.refl _ _ _, ?_, by simp [aa]⟩
   rw [Int.toNat_natCast, h.1]
   exact .int _ _ ⟨by show (-9223372036854775808 : Int) ≤ _; omega, by show _ ≤ (9223372036854775807 : Int); omega⟩
 | ⟨[]⟩, hlen, _ => simp at hlen
 | ⟨[_]⟩, hlen, _ => simp at hlen
 | ⟨_ :: _ :: _ :: _⟩, hlen, _ => simp at hlen
end Go.Proofs.YtehknfijojlddaaDoor
end
noncomputable section
namespace Go.Proofs.YtehknfijojlddaaDoor
open Go.AM
set_option autoImplicit false
set_option linter.unusedSimpArgs false
set_option linter.unusedVariables false
theorem hD (k : Nat) (hk : k ≤ 8) (a : Nat) (ha : a < 256) : ax .and .u8 (a : Int) ((2 ^ k - 1 : Nat) : Int) = ((a % 2 ^ k : Nat) : Int) := by
 have h2 : 2 ^ k ≤ 2 ^ 8 := Nat.pow_le_pow_right (by omega) hk
 have h1 : 1 ≤ 2 ^ k := Nat.one_le_two_pow
 rw [ge .u8 rfl a (2 ^ k - 1) ha (by show 2 ^ k - 1 < 2 ^ 8; omega), Nat.and_two_pow_sub_one_eq_mod]
theorem ei (p : Nat → Bool) (h : (List.range 256).all p = true) : ∀ n, n < 256 → p n = true := fun n hn => List.all_eq_true.1 h n (List.mem_range.2 hn)
def gk (n : Nat) : Bool :=
 let k := aK [34, 92, 8, 12, 10, 13, 9] (n : Int)
 if 0 ≤ k then decide (k < 7) && decide (bp (UInt8.ofNat n) = [92, ([34, 92, 98, 102, 110, 114, 116] : List UInt8).getD k.toNat 0])
 else if n < 32 then decide (bp (UInt8.ofNat n) = [92, 117, 48, 48, ([48, 49, 50, 51, 52, 53, 54, 55, 56, 57, 97, 98, 99, 100, 101, 102] : List UInt8).getD (n / 16) 0, ([48, 49, 50, 51, 52, 53, 54, 55, 56, 57, 97, 98, 99, 100, 101, 102] : List UInt8).getD (n % 16) 0])
 else decide (bp (UInt8.ofNat n) = [UInt8.ofNat n])
theorem gK : (List.range 256).all gk = true := by kernel_rfl
theorem fb (N : Nat) (rec : (List UInt8 × Int × Int × List UInt8) → Option (V × List ab)) (s o : List UInt8) (i : Nat) (hi : i < s.length) (hs : s.length ≤ 9223372036854775806) (ho : o.length ≤ 100000000) :
  ao N rec (s, (s.length : Int), (i : Int), o) = rec (s, (s.length : Int), ((i + 1 : Nat) : Int), o ++ bp (s.getD i 0)) := by
 have hb : (s.getD i 0).toNat < 256 := UInt8.toNat_lt _
 have ht := ei gk gK _ hb
 simp only [ao, Int.toNat_natCast]
 obtain ⟨c, hc⟩ : ∃ c, s.getD i 0 = c := ⟨_, rfl⟩
 simp only [hc] at hb ht ⊢
 have e4 : bX .u8 (c.toNat : Int) 4 = ((c.toNat / 16 : Nat) : Int) := gf .u8 c.toNat 4 (by decide)
 have e15 : ax .and .u8 (c.toNat : Int) 15 = ((c.toNat % 16 : Nat) : Int) := hD 4 (by omega) _ hb
 simp only [gk, UInt8.ofNat_toNat] at ht
 by_cases h1 : (0 : Int) ≤ aK [34, 92, 8, 12, 10, 13, 9] (c.toNat : Int)
 ·rw [if_pos h1] at ht
  simp only [Bool.and_eq_true, decide_eq_true_eq] at ht
  obtain ⟨ht1, ht2⟩ := ht
  have h7 : ([34, 92, 98, 102, 110, 114, 116] : List UInt8).length = 7 := rfl
  simp (disch := omega) only [dM, h1, ht2, h7, List.length_append, List.length_cons, List.length_nil, UInt8.ofNat_toNat, List.append_assoc, List.cons_append, List.nil_append]
  rfl
 ·rw [if_neg h1] at ht
  by_cases h2 : c.toNat < 32
  ·rw [if_pos h2] at ht
   simp only [decide_eq_true_eq] at ht
   simp (disch := omega) only [dM, ht, e4, e15, List.length_append, List.length_cons, List.length_nil, UInt8.ofNat_toNat, List.append_assoc, List.cons_append, List.nil_append]
   rfl
  ·rw [if_neg h2] at ht
   simp only [decide_eq_true_eq] at ht
   simp (disch := omega) only [dM, ht, UInt8.ofNat_toNat]
   rfl
theorem fE (c : UInt8) : (bp c).length ≤ 6 := by
 unfold bp
 repeat' split
 all_goals simp
theorem da (N : Nat) (s : List UInt8) (hs : s.length ≤ 1000) (hN : s.length < N) : (bu N s).map (·.1) = some (.str (eQ s)) := by
 have h : (cF N (ao N) (s, (s.length : Int), (0 : Int), [34])).map (·.1) = some (V.str (eQ s)) := by
  have key := eg (B := ao N) (fun x : List UInt8 × Int × Int × List UInt8 => x.1 = s ∧ x.2.1 = (s.length : Int) ∧ ∃ i : Nat, x.2.2.1 = (i : Int) ∧ i ≤ s.length ∧ x.2.2.2.length ≤ 1 + 6 * i)
   (fun x => s.length - x.2.2.1.toNat) (fun x => V.str (x.2.2.2 ++ ((s.drop x.2.2.1.toNat).flatMap bp ++ [34]))) ?_ N (s, (s.length : Int), (0 : Int), [34]) ⟨rfl, rfl, 0, rfl, by omega, by simp⟩ (by simpa using hN)
  ·rw [key]; rfl
  ·rintro rec ⟨x1, x2, x3, o⟩ ⟨h1, h2, i, h3, hi, ho⟩ hrec
   dsimp only at h1 h2 h3 hi ho
   subst h1 h2 h3
   by_cases hl : i < x1.length
   ·rw [fb N rec x1 o i hl (by omega) (by omega)]
    have hq := fE (x1.getD i 0)
    rw [hrec (x1, (x1.length : Int), ((i + 1 : Nat) : Int), o ++ bp (x1.getD i 0)) ⟨rfl, rfl, i + 1, rfl, by omega, by simp only [List.length_append]; omega⟩ (by simp; omega)]
    simp only [Int.toNat_natCast]
    rw [List.drop_eq_getElem_cons hl, List.flatMap_cons]
    simp [List.getD, hl]
   ·have e : i = x1.length := by omega
    subst e
    simp only [ao, Int.toNat_natCast, List.drop_length, List.flatMap_nil, List.nil_append]
    simp (disch := omega) only [dM, ]
    rfl
 simp only [bu, bb]
 simp (disch := omega) only [dM, List.length_nil, List.nil_append]
 exact h
end Go.Proofs.YtehknfijojlddaaDoor
end
