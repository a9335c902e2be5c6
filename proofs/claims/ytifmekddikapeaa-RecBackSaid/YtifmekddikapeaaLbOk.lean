/-
  strings.Builder's methods, on objects.
-/
import Derived.Test.YtifmekddikapeaaLbWalk
import Derived.Test.YtifmekddikapeaaAmX
namespace Go.Proofs.Ytifmekddikapeaa
open Go.AM
set_option autoImplicit false
set_option linter.unusedVariables false
set_option linter.unusedSimpArgs false

theorem row_cell {cs : List V} {o : Nat} {v : V} (h : cs[o]? = some v) (hv : v.one = true) : isRow cs = false := by
  cases hr : isRow cs with
  | false => rfl
  | true =>
    unfold isRow at hr
    split at hr
    · cases o with
      | zero => simp at h; subst h; cases hv
      | succ o => simp at h
    · cases o with
      | zero => simp at h; subst h; cases hv
      | succ o => simp at h
    · cases hr

theorem obj_of {env : List V} {hp : List AObj} {id : Nat} {cs : List V} (h : hp[id]? = some (some cs)) (hr : isRow cs = false) : St.obj { env := env, hp := hp } id = some cs := by
  unfold St.obj
  rw [List.getD_eq_getElem?_getD, h]
  simp only [Option.getD_some]
  split
  · rename_i e
    cases e
    simp [isRow] at hr
  · rename_i e
    cases e
    simp [isRow] at hr
  · rfl

/-- the objects alone, without slots -/
theorem SR.ofHR {g : Gh} {hp : List AObj} {w : World} (h : HR g hp w) : SR g { env := [], hp := hp } w { tmps := #[], defers := [] } :=
  ⟨h, ⟨rfl, by simp, by simp⟩⟩

theorem take_one_drop {α : Type} {l : List α} {o : Nat} {x : α} (h : l[o]? = some x) : l.take o ++ [x] ++ l.drop (o + 1) = l := by
  obtain ⟨hlt, rfl⟩ := List.getElem?_eq_some_iff.1 h
  rw [List.append_assoc, List.singleton_append, ← List.drop_eq_getElem_cons hlt, List.take_append_drop]

noncomputable def lies (E n o : Nat) : Bool := liesAt Try.prog Try.prog.depth E (n / Try.prog.cellsOf E) o 54 1

theorem set_same {hp : List AObj} {id : Nat} {x : AObj} (h : hp[id]? = some x) : hp.set id x = hp := by
  apply List.ext_getElem?
  intro j
  rw [List.getElem?_set]
  split
  · rename_i e; subst e
    obtain ⟨hlt, rfl⟩ := List.getElem?_eq_some_iff.1 h
    simp [hlt]
  · rfl

theorem cc_ok {id o E n : Nat} {cs : List V} {hp : List AObj} (hid : hp[id]? = some (some cs)) (hb : cs[o]? = some (.bn E n)) (hl : lies E n o = true) :
    FnOK Try.prog 29 [.ptr id o] hp (.tup []) hp := by
  intro w g cargs hβ hhr hlen hbare hrel
  match cargs, hlen, hrel with
  | ⟨[cv]⟩, hlen, hrel =>
    have r := hrel 0 (.ptr id o) cv rfl rfl
    cases r with
    | ptr _ _ hlt =>
    obtain ⟨arr, e, fz, h1, h2'⟩ := hhr.obj id cs hid
    have hrow := row_cell hb rfl
    obtain ⟨rfl, h2⟩ := h2'.low hrow
    obtain ⟨rfl, rfl, h3⟩ := h2.bn o E n hb
    have hoc : o < cs.length := (List.getElem?_eq_some_iff.1 hb).1
    have hlen := h2.len
    have hcell : w.cell? ⟨g.ρ id, o, none⟩ = arr[o]? := cell_of_heap h1 o
    rcases h3 with h3 | h3
    · have hsh : w.shape? (g.ρ id) = some (E, arr.size) := by simp [World.shape?, h1]
      refine (cc_fresh (g.ρ id) o E arr.size w (by rw [hcell, h3]) hsh (by omega) hl (by simp [World.frozen?, h1])).mono ?_
      rintro e w' ⟨rfl, rfl⟩
      obtain ⟨p1, p2⟩ := (SR.ofHR hhr).putCells (id := id) (o := o) (cs := cs) (news := [.bn E arr.size]) (us := [.pointer (some ⟨g.ρ id, o, none⟩)]) (obj_of hid hrow) rfl (by simp [V.one]) (by simp; omega) (by
        intro i c u hc hu
        cases i with
        | zero => simp at hc hu; subst hc hu; exact .bn _ _ _
        | succ i => simp at hc) (by
        intro i c u hc hu
        cases i with
        | zero => simp at hc hu; subst hc hu; simp [OwnOK]
        | succ i => simp at hc) (by
        intro i E' n' hi
        cases i with
        | zero => simp at hi; obtain ⟨rfl, rfl⟩ := hi; exact ⟨hb, .inr rfl⟩
        | succ i => simp at hi)
      have e1 : cs.take o ++ [V.bn E arr.size] ++ cs.drop (o + [V.bn E arr.size].length) = cs := take_one_drop hb
      simp only [St.setObj] at p1
      rw [e1, set_same hid] at p1 p2
      exact ⟨_, g, rfl, p1.hr, p2, .tup [] #[] rfl (by simp), by simp [OwnOK]⟩
    · refine (cc_used (g.ρ id) o w (by rw [hcell, h3])).mono ?_
      rintro e w' ⟨rfl, rfl⟩
      exact ⟨_, g, rfl, hhr, FR.refl _ _ _, .tup [] #[] rfl (by simp), by simp [OwnOK]⟩
  | ⟨[]⟩, hlen, _ => simp at hlen
  | ⟨_ :: _ :: _⟩, hlen, _ => simp at hlen

/-- what copyCheck gives -/
noncomputable def Gcc (f : Nat) (vs : List V) (hp : List AObj) : Option (Bool × V × List AObj) :=
  if f = 29 then
    match vs with
    | [.ptr id o] => match hp.getD id none with
      | some cs => match cs.getD o .undef with
        | .bn E n => some (lies E n o, .tup [], hp)
        | _ => none
      | none => none
    | _ => none
  else none

theorem Gcc_ok : SpecOK Try.prog Gcc := by
  intro f vs hp v hp' h
  unfold Gcc at h
  split at h
  · rename_i hf
    subst hf
    split at h
    · rename_i id o
      split at h
      · rename_i cs hcs
        split at h
        · rename_i E n hb
          simp only [Option.some.injEq, Prod.mk.injEq] at h
          obtain ⟨hl, rfl, rfl⟩ := h
          have h1 : hp[id]? = some (some cs) := by
            rw [List.getD_eq_getElem?_getD] at hcs
            cases hq : hp[id]? with
            | none => rw [hq] at hcs; simp at hcs
            | some x => rw [hq] at hcs; simpa using hcs
          have h2 : cs[o]? = some (.bn E n) := by
            rw [List.getD_eq_getElem?_getD] at hb
            cases hq : cs[o]? with
            | none => rw [hq] at hb; simp at hb
            | some x => rw [hq] at hb; simpa using hb
          exact cc_ok h1 h2 hl
        · simp at h
      · simp at h
    · simp at h
  · simp at h

theorem Gcc_pure : PureS Gcc [29] := by
  refine ⟨?_, ?_⟩
  · intro f vs hp hf
    have : f ≠ 29 := by rintro rfl; simp at hf
    simp [Gcc, this]
  · intro f vs hp c v hp' hf
    simp only [List.contains_cons, List.contains_nil, Bool.or_false, beq_iff_eq] at hf
    omega

theorem set_take_drop {α : Type} {l : List α} {o : Nat} (v : α) (h : o < l.length) : l.take o ++ [v] ++ l.drop (o + 1) = l.set o v := by
  rw [List.set_eq_take_append_cons_drop, if_pos h]; simp

def ir_strings_Builder_WriteString_0 : IR := .ret
def ir_strings_Builder_WriteString_1 : IR := (.seq (.reg [Mv 17 1, Pp (.lens 18 (.t 17)), Mv 4 18, Pp (.mov 5 (.c (.nilif)))] []) ir_strings_Builder_WriteString_0)
def ir_strings_Builder_WriteString_2 : IR := (.seq (.reg [Mv 8 0, Mv 9 0, Nk 10 9, Fa 11 1 10, Pp (.ld 12 1 false true (.t 11)), Mv 13 1, Pp (.apps 14 (.tk 12) (.t 13)), Nk 15 8, Fa 16 1 15, Pp (.st none 1 (.t 16) (.tk 14))] []) ir_strings_Builder_WriteString_1)
def ir_strings_Builder_WriteString_3 : IR := (.seq (.reg [Mv 6 0, Pp (.call (some 7) 29 [(.t 6)])] []) ir_strings_Builder_WriteString_2)
def ir_strings_Builder_WriteString : IR := (.seq (.reg [Pp (.mov 4 (.c (.int .i64 0))), Pp (.mov 5 (.c (.nilif)))] []) ir_strings_Builder_WriteString_3)
def rs_strings_Builder_WriteString : List RV := [.t 4, .t 5]

theorem chkWS (base : Nat) : (chkCode Try.prog [29] base ir_strings_Builder_WriteString (Try.f26.body.getD .skip) && chkRes Try.prog rs_strings_Builder_WriteString Try.f26.results.toList) = true := by kernel_rfl

theorem ws_run {id o E n : Nat} {cs : List V} {hp : List AObj} {l s : List UInt8} (hid : hp[id]? = some (some cs)) (hb : cs[o]? = some (.bn E n)) (hl : lies E n o = true) (hc : cs[o + 1]? = some (.sl .u8 .own l))
    (hlen : l.length + s.length ≤ 140737488355328) :
    callF Gcc 1 19 rs_strings_Builder_WriteString ir_strings_Builder_WriteString [.ptr id o, .str s] hp = some (.tup [.int .i64 (s.length : Int), .nilif], hp.set id (some (cs.set (o + 1) (.sl .u8 .own (l ++ s))))) := by
  have hlt : id < hp.length := (List.getElem?_eq_some_iff.1 hid).1
  have hco : o + 1 < cs.length := (List.getElem?_eq_some_iff.1 hc).1
  have hobj : hp.getD id none = some cs := by simp [List.getD, hid]
  have hob1 : ∀ env, St.obj { env := env, hp := hp } id = some cs := fun env => obj_of hid (row_cell hb rfl)
  have hob2 : ∀ env, St.obj { env := env, hp := hp.set id (some (cs.set (o + 1) (.sl .u8 (.may false) l))) } id = some (cs.set (o + 1) (.sl .u8 (.may false) l)) := fun env => obj_of (by rw [List.getElem?_set_self hlt]) (row_cell (o := o) (v := .bn E n) (by rw [List.getElem?_set_ne (by omega)]; exact hb) rfl)
  have hbo : cs.getD o .undef = .bn E n := by simp [List.getD, hb]
  have hco2 : cs.getD (o + 1) .undef = .sl .u8 .own l := by simp [List.getD, hc]
  have hcall : Gcc 29 [.ptr id o] hp = some (true, .tup [], hp) := by simp only [Gcc, if_true, hobj, hbo, hl]
  have htd : (cs.drop (o + 1)).take 1 = [.sl .u8 .own l] := by
    rw [List.drop_eq_getElem_cons hco]
    have : cs[o + 1] = .sl .u8 .own l := by simpa [List.getElem?_eq_getElem hco] using hc
    simp [this]
  have hidx : hp[id] = some cs := by simpa [List.getElem?_eq_getElem hlt] using hid
  have hle : o + 1 + 1 ≤ cs.length := hco
  have hhd : (cs.drop (o + 1)).head?.getD .undef = .sl .u8 .own l := by rw [List.head?_drop, hc]; rfl
  have hfit : l.length + s.length ≤ reach := hlen
  have hset : (cs.set (o + 1) (.sl .u8 (.may false) l)).take (o + 1) ++ V.sl .u8 .own (l ++ s) :: cs.drop (o + 1 + 1) = cs.set (o + 1) (.sl .u8 .own (l ++ s)) := by
    rw [List.take_set_of_le (Nat.le_refl _), List.set_eq_take_append_cons_drop, if_pos hco]
  simp [AM.Mv, AM.Pp, AM.Fa, AM.Nk, AM.stepO, AM.Fl.dis, AM.Fl.app, AM.ASrc.fix, AM.callF, AM.run, AM.kseq, AM.fin, AM.resultOf, AM.rvs, AM.RV.ev, ir_strings_Builder_WriteString_0, ir_strings_Builder_WriteString_1, ir_strings_Builder_WriteString_2, ir_strings_Builder_WriteString_3, ir_strings_Builder_WriteString, rs_strings_Builder_WriteString, AM.runOps, AM.chk, AM.start, AM.step, AM.St.set, AM.St.get, AM.St.setO, AM.ASrc.ev, AM.ASrc.after, AM.disown, hob1, hob2, AM.St.setObj, hcall, hobj, htd, AM.loaded, AM.noBn, hlt, hidx, hc, hle, hhd, AM.V.cells, AM.V.one, hfit, hset]
  rw [List.drop_set_of_lt (by omega), hset]

theorem ws_ok {id o E n : Nat} {cs : List V} {hp : List AObj} {l s : List UInt8} (hid : hp[id]? = some (some cs)) (hb : cs[o]? = some (.bn E n)) (hl : lies E n o = true) (hc : cs[o + 1]? = some (.sl .u8 .own l))
    (hlen : l.length + s.length ≤ 140737488355328) :
    FnOK Try.prog 26 [.ptr id o, .str s] hp (.tup [.int .i64 (s.length : Int), .nilif]) (hp.set id (some (cs.set (o + 1) (.sl .u8 .own (l ++ s))))) := by
  have hch := chkWS hp.length
  simp only [Bool.and_eq_true] at hch
  exact fnOK_of Gcc_ok Gcc_pure Try.func26 (show Try.f26.body = some (Try.f26.body.getD .skip) by kernel_rfl) hch.1 hch.2 (by decide) (ws_run hid hb hl hc hlen)

end Go.Proofs.Ytifmekddikapeaa
