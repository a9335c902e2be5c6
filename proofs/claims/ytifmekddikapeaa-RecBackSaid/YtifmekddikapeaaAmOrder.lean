/-
  Operations in any order: what an operation of the abstract machine looks at and what it turns; two that have nothing to do with each other may change places.
-/
import Derived.Test.YtifmekddikapeaaAmGhost
import Derived.Orders
namespace Go.AM
set_option autoImplicit false
set_option linter.unusedSimpArgs false
set_option linter.unusedVariables false

def ASrc.slots : ASrc → List Nat
  | .t n | .tk n => [n]
  | .c _ => []

def ASrc.takes : ASrc → List Nat
  | .tk n => [n]
  | _ => []

def oslots : Option ASrc → List Nat
  | some x => x.slots
  | none => []

/-- the slots that an operation looks at -/
def IOp.rd : IOp → List Nat
  | .mov _ x | .un _ _ x | .cvi _ _ x | .cvs _ x | .s2b _ x | .b2s _ x | .i2s _ x | .s2r _ x | .r2s _ x | .lens _ x | .lenl _ x | .fld _ _ _ _ x | .box _ x | .boxb _ _ _ _ x | .fad _ _ x | .ld _ _ _ _ x | .mks _ _ x | .s2o _ x | .mko _ x | .leno _ x | .o2s _ x | .ldo _ x | .ext _ _ x | .nck _ x | .boxe _ x | .lde _ _ _ x => x.slots
  | .frz _ r _ v => r :: v.slots
  | .pick _ c x y | .mn3 _ c x y => c.slots ++ (x.slots ++ y.slots)
  | .bin _ _ x y | .eqs _ _ _ x y | .idx _ x y | .ixa _ _ x y | .ixo _ x y | .ixp _ _ x y | .sto _ x y | .st _ _ x y | .app _ _ x y | .apps _ x y | .mx _ _ x y | .beq _ _ x y | .peq _ _ x y => x.slots ++ y.slots
  | .subs _ x lo hi | .subl _ _ x lo hi => x.slots ++ (oslots lo ++ oslots hi)
  | .bsl _ _ ps _ | .blo _ ps => ps.flatMap ASrc.slots
  | .bld _ _ ps => ps.flatMap fun p => p.2.2.slots
  | .new _ _ | .newb _ _ | .aro _ _ | .alr _ _ => []
  | .call _ _ as | .mkf _ _ as => as.flatMap ASrc.slots
  | .dcall _ _ x as => x.slots ++ as.flatMap ASrc.slots
  | .mku _ _ x | .s2u _ x | .lnw _ x | .fdw _ _ x | .ldw _ _ _ x => x.slots
  | .apu _ _ x y | .apw _ _ x y | .ixw _ _ x y | .stw _ _ x y => x.slots ++ y.slots
  | .apv _ _ x n => n :: x.slots
  | .blu _ _ => []

def IOp.wr (o : IOp) : List Nat :=
  o.dst.toList ++ (match o with | .mov _ x | .app _ _ x _ | .apps _ x _ | .st _ _ _ x => x.takes | .frz _ r _ _ => [r] | .apu _ _ x _ | .apv _ _ x _ | .apw _ _ x _ => x.takes | _ => [])

/-- what an operation has to do with objects: nothing, it reads them, it turns them -/
def IOp.cls (imp : List Nat) : IOp → Nat
  | .ld _ _ _ false _ | .o2s .. | .ldo .. | .ldw .. | .apw .. => 1
  | .ld _ _ _ true _ | .s2o .. | .mko .. | .blo .. | .aro .. | .sto .. | .st .. | .new .. | .box .. | .newb .. | .boxb .. | .dcall .. | .stw .. => 2
  | .call _ f _ => if imp.contains f then 2 else 0
  | _ => 0

def updH (hp : List AObj) (q : List (Nat × AObj)) : List AObj := q.foldl (fun h p => h.set p.1 p.2) hp

/-- the functions that have nothing to do with objects; those (marked by 2000000) that have to do with the objects among their arguments alone -/
structure PureS (Γ : ASpec) (imp : List Nat) : Prop where
  pure : ∀ f as hp, imp.contains f = false → Γ f as hp = (Γ f as []).map fun x => (x.1, x.2.1, hp)
  loc : ∀ f vs hp c v hp', imp.contains (f + 2000000) = true → Γ f vs hp = some (c, v, hp') → ∃ q : List (Nat × AObj), (∀ p ∈ q, p.1 ∈ ptrIds vs) ∧ hp' = updH hp q ∧
    ∀ hp2 : List AObj, hp2.length = hp.length → (∀ i ∈ argIds vs, hp2[i]? = hp[i]?) → Γ f vs hp2 = some (c, v, updH hp2 q)

theorem updH_length (q : List (Nat × AObj)) : ∀ hp : List AObj, (updH hp q).length = hp.length := by
  induction q with
  | nil => intro hp; rfl
  | cons p q ih => intro hp; show (updH (hp.set p.1 p.2) q).length = _; rw [ih]; simp

theorem updH_get {q : List (Nat × AObj)} {i : Nat} : ∀ {hp : List AObj}, (∀ p ∈ q, p.1 ≠ i) → (updH hp q)[i]? = hp[i]? := by
  induction q with
  | nil => intro hp _; rfl
  | cons p q ih =>
    intro hp h
    show (updH (hp.set p.1 p.2) q)[i]? = _
    rw [ih (fun x hx => h x (List.mem_cons_of_mem _ hx)), List.getElem?_set_ne (h p (List.mem_cons_self ..))]

theorem getD_same {hp hp2 : List AObj} {i : Nat} (h : hp2[i]? = hp[i]?) : hp2.getD i none = hp.getD i none := by
  rw [List.getD_eq_getElem?_getD, List.getD_eq_getElem?_getD, h]

theorem ptrIds_arg : ∀ {vs : List V} {i : Nat}, i ∈ ptrIds vs → i ∈ argIds vs
  | [], _, h => by simp [ptrIds] at h
  | v :: vs, i, h => by
    have e : argIds (v :: vs) = v.cellsA.flatMap V.id1 ++ argIds vs := by simp [argIds]
    rw [e, List.mem_append]
    unfold ptrIds at h
    split at h
    · rename_i e'; cases e'
    · rename_i e'
      cases e'
      rcases List.mem_cons.1 h with rfl | h
      · left; simp [V.cellsA, V.id1]
      · exact .inr (ptrIds_arg h)
    · rename_i e'
      cases e'
      exact .inr (ptrIds_arg h)

def St.upd (s : St) (l : List (Nat × V)) : St := { s with env := l.foldl (fun e p => e.set p.1 p.2) s.env }

section
variable {Γ : ASpec} {imp : List Nat}

theorem src_same {s t : St} {x : ASrc} (h : ∀ n ∈ x.slots, t.get n = s.get n) : x.ev t = x.ev s := by
  cases x with
  | t n => simp only [ASrc.ev]; rw [h n (by simp [ASrc.slots])]
  | tk n => exact h n (by simp [ASrc.slots])
  | c v => rfl

theorem osrc_same {s t : St} {x : Option ASrc} (h : ∀ n ∈ oslots x, t.get n = s.get n) : osrc t x = osrc s x := by
  cases x with
  | none => rfl
  | some x => simp only [osrc]; rw [src_same h]

theorem setO_upd (s : St) (d : Option Nat) (v : V) : s.setO d v = s.upd (d.toList.map fun d => (d, v)) := by cases d <;> rfl
theorem set_upd (s : St) (d : Nat) (v : V) : s.set d v = s.upd [(d, v)] := rfl
theorem after_upd (s : St) (x : ASrc) : x.after s = s.upd (x.takes.map fun n => (n, disown (s.get n))) := by cases x <;> rfl
theorem upd_upd (s : St) (l m : List (Nat × V)) : (s.upd l).upd m = s.upd (l ++ m) := by simp [St.upd, List.foldl_append]
theorem upd_hp (s : St) (l : List (Nat × V)) : (s.upd l).hp = s.hp := rfl

theorem get_upd {s : St} : ∀ {l : List (Nat × V)} {n : Nat}, (∀ p ∈ l, p.1 ≠ n) → (s.upd l).get n = s.get n := by
  intro l
  induction l generalizing s with
  | nil => intro n h; rfl
  | cons p l ih =>
    intro n h
    have : s.upd (p :: l) = (s.set p.1 p.2).upd l := rfl
    rw [this, ih (fun q hq => h q (List.mem_cons_of_mem _ hq))]
    simp [St.get, St.set, List.getD, List.getElem?_set, h p (List.mem_cons_self ..)]

def Local (Γ : ASpec) (imp : List Nat) (o : IOp) (s : St) (c : Bool) (s' : St) : Prop :=
  ∃ u : List (Nat × V), (∀ p ∈ u, p.1 ∈ o.wr) ∧ s' = s.upd u ∧ ∀ t : St, (∀ n ∈ o.rd, t.get n = s.get n) → (o.cls imp = 1 → t.hp = s.hp) → step Γ o t = some (c, t.upd u)

theorem of_simple {o : IOp} {s s' : St} {c : Bool} (E : Option (Bool × V)) (hE : ∀ t : St, (∀ n ∈ o.rd, t.get n = s.get n) → (o.cls imp = 1 → t.hp = s.hp) → step Γ o t = E.map fun p => (p.1, t.setO o.dst p.2))
    (h : step Γ o s = some (c, s')) : Local Γ imp o s c s' := by
  rw [hE s (fun _ _ => rfl) (fun _ => rfl)] at h
  cases E with
  | none => simp at h
  | some p =>
    simp only [Option.map_some, Option.some.injEq, Prod.mk.injEq] at h
    obtain ⟨rfl, rfl⟩ := h
    refine ⟨o.dst.toList.map fun d => (d, p.2), ?_, setO_upd _ _ _, ?_⟩
    · intro q hq
      simp only [List.mem_map] at hq
      obtain ⟨d, hd, rfl⟩ := hq
      simp [IOp.wr, hd]
    · intro t ht hh
      rw [hE t ht hh, ← setO_upd]
      rfl

/-- what a step does to a state that has the same in the slots that are looked at -/
theorem step_local (hP : PureS Γ imp) {o : IOp} (hw : o.cls imp ≤ 1) {s : St} {c : Bool} {s' : St} (h : step Γ o s = some (c, s')) :
    Local Γ imp o s c s' := by
  have s1 : ∀ {x : ASrc} {l : List Nat} {t : St}, (∀ n ∈ l, t.get n = s.get n) → (∀ n ∈ x.slots, n ∈ l) → x.ev t = x.ev s := fun h1 h2 => src_same fun n hn => h1 n (h2 n hn)
  have s2 : ∀ {x : Option ASrc} {l : List Nat} {t : St}, (∀ n ∈ l, t.get n = s.get n) → (∀ n ∈ oslots x, n ∈ l) → osrc t x = osrc s x := fun h1 h2 => osrc_same fun n hn => h1 n (h2 n hn)
  cases o with
  | mov d x =>
    obtain ⟨rfl, rfl⟩ : true = c ∧ _ = s' := by simpa [step] using h
    refine ⟨x.takes.map (fun n => (n, disown (s.get n))) ++ [(d, x.ev s)], ?_, ?_, ?_⟩
    · intro p hp
      simp only [List.mem_append, List.mem_map, List.mem_singleton] at hp
      rcases hp with ⟨n, hn, rfl⟩ | rfl
      · simp [IOp.wr, IOp.dst, hn]
      · simp [IOp.wr, IOp.dst]
    · rw [← upd_upd, ← after_upd]; rfl
    · intro t ht _
      have e := src_same (x := x) ht
      have e2 : x.takes.map (fun n => (n, disown (t.get n))) = x.takes.map (fun n => (n, disown (s.get n))) := by
        cases x with
        | tk n => simp only [ASrc.takes, List.map]; rw [ht n (by simp [IOp.rd, ASrc.slots])]
        | _ => rfl
      simp only [step, e]
      rw [after_upd, e2, ← upd_upd]; rfl
  | app d k x y =>
    simp only [step] at h
    split at h
    · rename_i k' ox l k'' ow m hx hy
      split at h
      · rename_i hk
        split at h
        · rename_i hkk
          simp only [Option.some.injEq, Prod.mk.injEq] at h
          obtain ⟨rfl, rfl⟩ := h
          refine ⟨x.takes.map (fun n => (n, disown (s.get n))) ++ [(d, .sl k' .own (l ++ (hkk ▸ m)))], ?_, ?_, ?_⟩
          · intro p hp
            simp only [List.mem_append, List.mem_map, List.mem_singleton] at hp
            rcases hp with ⟨n, hn, rfl⟩ | rfl
            · simp [IOp.wr, IOp.dst, hn]
            · simp [IOp.wr, IOp.dst]
          · rw [← upd_upd, ← after_upd]; rfl
          · intro t ht _
            have e1 := src_same (x := x) (fun n hn => ht n (by simp [IOp.rd, hn]))
            have e3 := src_same (x := y) (fun n hn => ht n (by simp [IOp.rd, hn]))
            have e2 : x.takes.map (fun n => (n, disown (t.get n))) = x.takes.map (fun n => (n, disown (s.get n))) := by
              cases x with
              | tk n => simp only [ASrc.takes, List.map]; rw [ht n (by simp [IOp.rd, ASrc.slots])]
              | _ => rfl
            simp only [step, e1, e3, hx, hy, hk, hkk, dif_pos, if_true]
            rw [after_upd, e2, ← upd_upd]; rfl
        · simp at h
      · simp at h
    · simp at h
  | apu d k x y =>
    simp only [step] at h
    split at h
    · rename_i k' l k'' ow m hx hy
      split at h
      · rename_i hk
        split at h
        · rename_i hkk
          simp only [Option.some.injEq, Prod.mk.injEq] at h
          obtain ⟨rfl, rfl⟩ := h
          refine ⟨x.takes.map (fun n => (n, disown (s.get n))) ++ [(d, .ul k' (l ++ (hkk ▸ m)))], ?_, ?_, ?_⟩
          · intro p hp
            simp only [List.mem_append, List.mem_map, List.mem_singleton] at hp
            rcases hp with ⟨n, hn, rfl⟩ | rfl
            · simp [IOp.wr, IOp.dst, hn]
            · simp [IOp.wr, IOp.dst]
          · rw [← upd_upd, ← after_upd]; rfl
          · intro t ht _
            have e1 := src_same (x := x) (fun n hn => ht n (by simp [IOp.rd, hn]))
            have e3 := src_same (x := y) (fun n hn => ht n (by simp [IOp.rd, hn]))
            have e2 : x.takes.map (fun n => (n, disown (t.get n))) = x.takes.map (fun n => (n, disown (s.get n))) := by
              cases x with
              | tk n => simp only [ASrc.takes, List.map]; rw [ht n (by simp [IOp.rd, ASrc.slots])]
              | _ => rfl
            simp only [step, e1, e3, hx, hy, hk, hkk, dif_pos, if_true]
            rw [after_upd, e2, ← upd_upd]; rfl
        · simp at h
      · simp at h
    · simp at h
  | apv d k x q =>
    simp only [step] at h
    split at h
    · rename_i k' l k'' m hx hy
      split at h
      · rename_i hk
        split at h
        · rename_i hkk
          simp only [Option.some.injEq, Prod.mk.injEq] at h
          obtain ⟨rfl, rfl⟩ := h
          refine ⟨x.takes.map (fun n => (n, disown (s.get n))) ++ [(d, .ul k' (l ++ (hkk ▸ m)))], ?_, ?_, ?_⟩
          · intro p hp
            simp only [List.mem_append, List.mem_map, List.mem_singleton] at hp
            rcases hp with ⟨n, hn, rfl⟩ | rfl
            · simp [IOp.wr, IOp.dst, hn]
            · simp [IOp.wr, IOp.dst]
          · rw [← upd_upd, ← after_upd]; rfl
          · intro t ht _
            have e1 := src_same (x := x) (fun n hn => ht n (by simp [IOp.rd, hn]))
            have e3 : t.get q = s.get q := ht q (by simp [IOp.rd])
            have e2 : x.takes.map (fun n => (n, disown (t.get n))) = x.takes.map (fun n => (n, disown (s.get n))) := by
              cases x with
              | tk n => simp only [ASrc.takes, List.map]; rw [ht n (by simp [IOp.rd, ASrc.slots])]
              | _ => rfl
            simp only [step, e1, e3, hx, hy, hk, hkk, dif_pos, if_true]
            rw [after_upd, e2, ← upd_upd]; rfl
        · simp at h
      · simp at h
    · simp at h
  | apw d k x y =>
    simp only [step] at h
    split at h
    · rename_i k' l k0 id q hx hy
      split at h
      · rename_i k'' m hrow
        split at h
        · rename_i hk
          split at h
          · rename_i hkk
            simp only [Option.some.injEq, Prod.mk.injEq] at h
            obtain ⟨rfl, rfl⟩ := h
            refine ⟨x.takes.map (fun n => (n, disown (s.get n))) ++ [(d, .ul k' (l ++ (hkk ▸ m)))], ?_, ?_, ?_⟩
            · intro p hp
              simp only [List.mem_append, List.mem_map, List.mem_singleton] at hp
              rcases hp with ⟨n, hn, rfl⟩ | rfl
              · simp [IOp.wr, IOp.dst, hn]
              · simp [IOp.wr, IOp.dst]
            · rw [← upd_upd, ← after_upd]; rfl
            · intro t ht hh
              have e1 := src_same (x := x) (fun n hn => ht n (by simp [IOp.rd, hn]))
              have e3 := src_same (x := y) (fun n hn => ht n (by simp [IOp.rd, hn]))
              have e4 : t.rowW id = s.rowW id := by simp only [St.rowW]; rw [hh rfl]
              have e2 : x.takes.map (fun n => (n, disown (t.get n))) = x.takes.map (fun n => (n, disown (s.get n))) := by
                cases x with
                | tk n => simp only [ASrc.takes, List.map]; rw [ht n (by simp [IOp.rd, ASrc.slots])]
                | _ => rfl
              simp only [step, e1, e3, hx, hy, e4, hrow, hk, hkk, dif_pos, if_true]
              rw [after_upd, e2, ← upd_upd]; rfl
          · simp at h
        · simp at h
      · simp at h
    · simp at h
  | s2u d x =>
    refine of_simple (match x.ev s with | .str l => some (true, .ul .u8 l) | _ => none) (fun t ht _ => ?_) h
    have e0 : x.ev t = x.ev s := s1 ht (by simp +contextual [IOp.rd])
    simp only [step, e0, IOp.dst, St.setO]
    split <;> first | rfl | (simp_all; done)
  | blu d k =>
    refine of_simple (some (true, .ul k [])) (fun t ht _ => ?_) h
    simp only [step, IOp.dst, St.setO, Option.map_some]
  | mku d k x =>
    refine of_simple (match x.ev s with | .int _ n => some (decide (0 ≤ n) && decide (n * k.bytes ≤ reach), .ul k (List.replicate n.toNat (dflt k))) | _ => none) (fun t ht _ => ?_) h
    have e0 : x.ev t = x.ev s := s1 ht (by simp +contextual [IOp.rd])
    simp only [step, e0, IOp.dst, St.setO]
    split <;> first | rfl | (simp_all; done)
  | lnw d x =>
    refine of_simple (match x.ev s with | .hd n => some (true, .int .i64 n) | .sw _ _ n => some (true, .int .i64 n) | _ => none) (fun t ht _ => ?_) h
    have e0 : x.ev t = x.ev s := s1 ht (by simp +contextual [IOp.rd])
    simp only [step, e0, IOp.dst, St.setO]
    split <;> first | rfl | (simp_all; done)
  | ixw d k x i =>
    refine of_simple (match x.ev s, i.ev s with | .sw k' id n, .int _ i => if k' = k then some (decide (0 ≤ i) && decide (i < n), .wp id k' i.toNat 0) else none | _, _ => none) (fun t ht _ => ?_) h
    have e0 : x.ev t = x.ev s := s1 ht (by simp +contextual [IOp.rd])
    have e1 : i.ev t = i.ev s := s1 ht (by simp +contextual [IOp.rd])
    simp only [step, e0, e1, IOp.dst, St.setO]
    split
    · split <;> first | rfl | (simp_all; done)
    · first | rfl | (simp_all; done)
  | fdw d off x =>
    refine of_simple (match x.ev s with | .wp id k i o => some (true, .wp id k i (o + off)) | _ => none) (fun t ht _ => ?_) h
    have e0 : x.ev t = x.ev s := s1 ht (by simp +contextual [IOp.rd])
    simp only [step, e0, IOp.dst, St.setO]
    split <;> first | rfl | (simp_all; done)
  | ldw d n agg x =>
    refine of_simple (match x.ev s with
      | .wp id k i o => (match s.rowW id with
        | some ⟨k', xs⟩ => if k' = k ∧ o + n ≤ k'.sz then some (decide (i < xs.length), disown (loaded agg (((enc k' (xs.getD i (dflt k'))).drop o).take n))) else none
        | none => none)
      | _ => none) (fun t ht hh => ?_) h
    have e0 : x.ev t = x.ev s := s1 ht (by simp +contextual [IOp.rd])
    have e1 : ∀ id, t.rowW id = s.rowW id := fun id => by simp only [St.rowW]; rw [hh rfl]
    simp only [step, e0, e1, IOp.dst, St.setO]
    split
    · rename_i id k i o hx
      simp only [hx]
      cases hr : s.rowW id with
      | none => rfl
      | some p =>
        obtain ⟨k', xs⟩ := p
        simp only
        split <;> rfl
    · rename_i hx
      split
      · rename_i heq; exact absurd heq (hx _ _ _ _)
      · rfl
  | apps d x y =>
    simp only [step] at h
    split at h
    · rename_i l m hx hy
      simp only [Option.some.injEq, Prod.mk.injEq] at h
      obtain ⟨rfl, rfl⟩ := h
      refine ⟨x.takes.map (fun n => (n, disown (s.get n))) ++ [(d, .sl .u8 .own (l ++ m))], ?_, ?_, ?_⟩
      · intro p hp
        simp only [List.mem_append, List.mem_map, List.mem_singleton] at hp
        rcases hp with ⟨n, hn, rfl⟩ | rfl
        · simp [IOp.wr, IOp.dst, hn]
        · simp [IOp.wr, IOp.dst]
      · rw [← upd_upd, ← after_upd]; rfl
      · intro t ht _
        have e1 := src_same (x := x) (fun n hn => ht n (by simp [IOp.rd, hn]))
        have e3 := src_same (x := y) (fun n hn => ht n (by simp [IOp.rd, hn]))
        have e2 : x.takes.map (fun n => (n, disown (t.get n))) = x.takes.map (fun n => (n, disown (s.get n))) := by
          cases x with
          | tk n => simp only [ASrc.takes, List.map]; rw [ht n (by simp [IOp.rd, ASrc.slots])]
          | _ => rfl
        simp only [step, e1, e3, hx, hy]
        rw [after_upd, e2, ← upd_upd]; rfl
    · simp at h
  | new => simp [IOp.cls] at hw
  | box => simp [IOp.cls] at hw
  | newb => simp [IOp.cls] at hw
  | boxb => simp [IOp.cls] at hw
  | st => simp [IOp.cls] at hw
  | s2o => simp [IOp.cls] at hw
  | mko => simp [IOp.cls] at hw
  | blo => simp [IOp.cls] at hw
  | aro => simp [IOp.cls] at hw
  | sto => simp [IOp.cls] at hw
  | stw d n x v => simp [IOp.cls] at hw
  | dcall => simp [IOp.cls] at hw
  | alr d n =>
    refine of_simple (some (true, .raw n)) (fun t ht _ => ?_) h
    simp only [step, IOp.dst, St.setO, Option.map_some]
  | lde d n agg x =>
    refine of_simple (match x.ev s with | .ea cs => if n ≤ cs.length then some (true, disown (loaded agg (cs.take n))) else none | _ => none) (fun t ht _ => ?_) h
    have e0 : x.ev t = x.ev s := s1 ht (by simp +contextual [IOp.rd])
    simp only [step, e0, IOp.dst, St.setO]
    split
    · split <;> first | rfl | (simp_all; done)
    · first | rfl | (simp_all; done)
  | frz d r n v =>
    simp only [step] at h
    split at h
    · rename_i m hr
      split at h
      · rename_i hc
        simp only [Option.some.injEq, Prod.mk.injEq] at h
        obtain ⟨rfl, rfl⟩ := h
        refine ⟨[(r, .ea ((v.ev s).cells.map disown))] ++ (d.toList.map fun d => (d, .undef)), ?_, ?_, ?_⟩
        · intro p hp
          simp only [List.mem_append, List.mem_map, List.mem_singleton] at hp
          rcases hp with rfl | ⟨m, hm, rfl⟩
          · simp [IOp.wr]
          · simp [IOp.wr, IOp.dst, hm]
        · rw [← upd_upd, ← setO_upd]; rfl
        · intro t ht _
          have e1 := src_same (x := v) (fun n hn => ht n (by simp [IOp.rd, hn]))
          have e2 : t.get r = s.get r := ht r (by simp [IOp.rd])
          simp only [step, e1, e2, hr, hc, if_true]
          rw [← upd_upd, ← setO_upd]; rfl
      · simp at h
    · simp at h
  | boxe d x =>
    refine of_simple (match x.ev s with | .agg cs => some (true, .ea (cs.map disown)) | v => if v.one then some (true, .ea [disown v]) else none) (fun t ht _ => ?_) h
    have e0 : x.ev t = x.ev s := s1 ht (by simp +contextual [IOp.rd])
    simp only [step, e0, IOp.dst, St.setO]
    split
    · first | rfl | (simp_all; done)
    · split <;> first | rfl | (simp_all; done)
  | mkf d f ps =>
    refine of_simple (some (true, .fn f (ps.map fun x => disown (x.ev s)))) (fun t ht _ => ?_) h
    have e : (ps.map fun x => disown (x.ev t)) = ps.map fun x => disown (x.ev s) := List.map_congr_left fun x hx => congrArg disown (s1 ht (fun n hn => by simp only [IOp.rd, List.mem_flatMap]; exact ⟨x, hx, hn⟩))
    simp only [step, e, IOp.dst, St.setO, Option.map_some]
  | ixp d n x i =>
    refine of_simple (match x.ev s, i.ev s with | .ptr id o, .int _ i => some (decide (0 ≤ i) && decide (i < n), .ptr id (o + i.toNat)) | _, _ => none) (fun t ht _ => ?_) h
    have e0 : x.ev t = x.ev s := s1 ht (by simp +contextual [IOp.rd])
    have e1 : i.ev t = i.ev s := s1 ht (by simp +contextual [IOp.rd])
    simp only [step, e0, e1, IOp.dst, St.setO]
    split <;> first | rfl | (simp_all; done)
  | ixo d x i =>
    refine of_simple (match x.ev s, i.ev s with | .so id n, .int _ i => some (decide (0 ≤ i) && decide (i < n), .ptr id i.toNat) | _, _ => none) (fun t ht _ => ?_) h
    have e0 : x.ev t = x.ev s := s1 ht (by simp +contextual [IOp.rd])
    have e1 : i.ev t = i.ev s := s1 ht (by simp +contextual [IOp.rd])
    simp only [step, e0, e1, IOp.dst, St.setO]
    split <;> first | rfl | (simp_all; done)
  | leno d x =>
    refine of_simple (match x.ev s with | .so _ n => some (true, .int .i64 n) | _ => none) (fun t ht _ => ?_) h
    have e0 : x.ev t = x.ev s := s1 ht (by simp +contextual [IOp.rd])
    simp only [step, e0, IOp.dst, St.setO]
    split <;> first | rfl | (simp_all; done)
  | o2s d x =>
    refine of_simple (match x.ev s with | .so id n => (match s.row id with | some xs => some (decide (n ≤ xs.length), .str (xs.take n)) | none => none) | _ => none) (fun t ht hh => ?_) h
    have e0 : x.ev t = x.ev s := s1 ht (by simp +contextual [IOp.rd])
    have e1 : ∀ id, t.row id = s.row id := fun id => by simp only [St.row]; rw [hh rfl]
    simp only [step, e0, e1, IOp.dst, St.setO]
    split
    · split <;> first | rfl | (simp_all; done)
    · first | rfl | (simp_all; done)
  | ldo d x =>
    refine of_simple (match x.ev s with | .ptr id o => (match s.row id with | some xs => some (decide (o < xs.length), .int .u8 (xs.getD o 0).toNat) | none => none) | _ => none) (fun t ht hh => ?_) h
    have e0 : x.ev t = x.ev s := s1 ht (by simp +contextual [IOp.rd])
    have e1 : ∀ id, t.row id = s.row id := fun id => by simp only [St.row]; rw [hh rfl]
    simp only [step, e0, e1, IOp.dst, St.setO]
    split
    · split <;> first | rfl | (simp_all; done)
    · first | rfl | (simp_all; done)
  | pick d cc x y =>
    refine of_simple (match cc.ev s with | .bool t => some (true, pickV t (disown (x.ev s)) (disown (y.ev s))) | _ => none) (fun t ht _ => ?_) h
    have e0 : cc.ev t = cc.ev s := s1 ht (by simp +contextual [IOp.rd])
    have e1 : x.ev t = x.ev s := s1 ht (by simp +contextual [IOp.rd])
    have e2 : y.ev t = y.ev s := s1 ht (by simp +contextual [IOp.rd])
    simp only [step, e0, e1, e2, IOp.dst, St.setO]
    split <;> first | rfl | (simp_all; done)
  | bin d o x y =>
    refine of_simple (binV o (x.ev s) (y.ev s)) (fun t ht _ => ?_) h
    have e0 : x.ev t = x.ev s := s1 ht (by simp +contextual [IOp.rd])
    have e1 : y.ev t = y.ev s := s1 ht (by simp +contextual [IOp.rd])
    simp only [step, e0, e1, IOp.dst, St.setO]
  | un d o x =>
    refine of_simple ((unV o (x.ev s)).map fun v => (true, v)) (fun t ht _ => ?_) h
    have e0 : x.ev t = x.ev s := s1 ht (by simp +contextual [IOp.rd])
    simp only [step, e0, IOp.dst, St.setO]
    cases unV o (x.ev s) <;> rfl
  | cvi d k x =>
    refine of_simple (match x.ev s with | .int _ n => some (true, .int k (k.wrap n)) | _ => none) (fun t ht _ => ?_) h
    have e0 : x.ev t = x.ev s := s1 ht (by simp +contextual [IOp.rd])
    simp only [step, e0, IOp.dst, St.setO]
    split <;> first | rfl | (simp_all; done)
  | cvs d x =>
    refine of_simple (match x.ev s with | .str l => some (true, .str l) | _ => none) (fun t ht _ => ?_) h
    have e0 : x.ev t = x.ev s := s1 ht (by simp +contextual [IOp.rd])
    simp only [step, e0, IOp.dst, St.setO]
    split <;> first | rfl | (simp_all; done)
  | s2b d x =>
    refine of_simple (match x.ev s with | .str l => some (true, .sl .u8 .own l) | _ => none) (fun t ht _ => ?_) h
    have e0 : x.ev t = x.ev s := s1 ht (by simp +contextual [IOp.rd])
    simp only [step, e0, IOp.dst, St.setO]
    split <;> first | rfl | (simp_all; done)
  | b2s d x =>
    refine of_simple (match x.ev s with | .sl .u8 _ l => some (true, .str l) | _ => none) (fun t ht _ => ?_) h
    have e0 : x.ev t = x.ev s := s1 ht (by simp +contextual [IOp.rd])
    simp only [step, e0, IOp.dst, St.setO]
    split <;> first | rfl | (simp_all; done)
  | i2s d x =>
    refine of_simple (match x.ev s with | .int _ n => some (true, .str (utf8 n)) | _ => none) (fun t ht _ => ?_) h
    have e0 : x.ev t = x.ev s := s1 ht (by simp +contextual [IOp.rd])
    simp only [step, e0, IOp.dst, St.setO]
    split <;> first | rfl | (simp_all; done)
  | s2r d x =>
    refine of_simple (match x.ev s with | .str l => some (decide ((runesOf l).length ≤ 70368744177664), .sl (.num .i32) .own (runesOf l)) | _ => none) (fun t ht _ => ?_) h
    have e0 : x.ev t = x.ev s := s1 ht (by simp +contextual [IOp.rd])
    simp only [step, e0, IOp.dst, St.setO]
    split <;> first | rfl | (simp_all; done)
  | r2s d x =>
    refine of_simple (match x.ev s with | .sl (.num .i32) _ l => some (decide (l.length ≤ reach), .str (utf8s l)) | _ => none) (fun t ht _ => ?_) h
    have e0 : x.ev t = x.ev s := s1 ht (by simp +contextual [IOp.rd])
    simp only [step, e0, IOp.dst, St.setO]
    split <;> first | rfl | (simp_all; done)
  | lens d x =>
    refine of_simple (match x.ev s with | .str l => some (true, .int .i64 l.length) | _ => none) (fun t ht _ => ?_) h
    have e0 : x.ev t = x.ev s := s1 ht (by simp +contextual [IOp.rd])
    simp only [step, e0, IOp.dst, St.setO]
    split <;> first | rfl | (simp_all; done)
  | lenl d x =>
    refine of_simple (match x.ev s with | .sl _ _ l => some (true, .int .i64 l.length) | _ => none) (fun t ht _ => ?_) h
    have e0 : x.ev t = x.ev s := s1 ht (by simp +contextual [IOp.rd])
    simp only [step, e0, IOp.dst, St.setO]
    split <;> first | rfl | (simp_all; done)
  | eqs d neg ks x y =>
    refine of_simple (match x.ev s, y.ev s with | .agg xs, .agg ys => (sameCells ks xs ys).map fun r => (true, .bool (if neg then !r else r)) | _, _ => none) (fun t ht _ => ?_) h
    have e0 : x.ev t = x.ev s := s1 ht (by simp +contextual [IOp.rd])
    have e1 : y.ev t = y.ev s := s1 ht (by simp +contextual [IOp.rd])
    simp only [step, e0, e1, IOp.dst, St.setO]
    split
    · rename_i xs ys hx hy; simp only [hx, hy]; cases sameCells ks xs ys <;> rfl
    · first | rfl | (simp_all; done)
  | idx d x i =>
    refine of_simple (match x.ev s, i.ev s with | .str l, .int _ i => some (decide (0 ≤ i) && decide (i < l.length), .int .u8 (l.getD i.toNat 0).toNat) | _, _ => none) (fun t ht _ => ?_) h
    have e0 : x.ev t = x.ev s := s1 ht (by simp +contextual [IOp.rd])
    have e1 : i.ev t = i.ev s := s1 ht (by simp +contextual [IOp.rd])
    simp only [step, e0, e1, IOp.dst, St.setO]
    split <;> first | rfl | (simp_all; done)
  | ixa d k x i =>
    refine of_simple (match x.ev s, i.ev s with | .sl k' _ l, .int _ i => if k' = k then some (decide (0 ≤ i) && decide (i < l.length), .ea (enc k' (l.getD i.toNat (dflt k')))) else none | _, _ => none) (fun t ht _ => ?_) h
    have e0 : x.ev t = x.ev s := s1 ht (by simp +contextual [IOp.rd])
    have e1 : i.ev t = i.ev s := s1 ht (by simp +contextual [IOp.rd])
    simp only [step, e0, e1, IOp.dst, St.setO]
    split
    · split <;> first | rfl | (simp_all; done)
    · first | rfl | (simp_all; done)
  | subs d x lo hi =>
    refine of_simple (match x.ev s with | .str l => (ends l.length (osrc s lo) (osrc s hi)).map fun (c, a, b) => (c, .str ((l.take b).drop a)) | _ => none) (fun t ht _ => ?_) h
    have e0 : x.ev t = x.ev s := s1 ht (by simp +contextual [IOp.rd])
    have f0 : osrc t lo = osrc s lo := s2 ht (by simp +contextual [IOp.rd])
    have f1 : osrc t hi = osrc s hi := s2 ht (by simp +contextual [IOp.rd])
    simp only [step, e0, f0, f1, IOp.dst, St.setO]
    split
    · rename_i l hl; simp only [hl, Option.map_map]; rfl
    · first | rfl | (simp_all; done)
  | subl d k x lo hi =>
    refine of_simple (match x.ev s with | .sl k' _ l => if k' = k then (ends l.length (osrc s lo) (osrc s hi)).map fun (c, a, b) => (c, .sl k' (.may false) ((l.take b).drop a)) else none | _ => none) (fun t ht _ => ?_) h
    have e0 : x.ev t = x.ev s := s1 ht (by simp +contextual [IOp.rd])
    have f0 : osrc t lo = osrc s lo := s2 ht (by simp +contextual [IOp.rd])
    have f1 : osrc t hi = osrc s hi := s2 ht (by simp +contextual [IOp.rd])
    simp only [step, e0, f0, f1, IOp.dst, St.setO]
    split
    · rename_i l hl
      simp only [hl]
      split
      · simp only [Option.map_map]; rfl
      · rfl
    · first | rfl | (simp_all; done)
  | bsl d k ps u =>
    refine of_simple ((decAll k (ps.map (·.ev s))).map fun l => (true, .sl k (cond u (.may true) .own) l)) (fun t ht _ => ?_) h
    have e : ps.map (·.ev t) = ps.map (·.ev s) := List.map_congr_left fun x hx => s1 ht (fun n hn => by simp only [IOp.rd, List.mem_flatMap]; exact ⟨x, hx, hn⟩)
    simp only [step, e, IOp.dst, St.setO, Option.map_map]
    rfl
  | bld d zero ps =>
    refine of_simple ((lay zero (ps.map fun (off, n, x) => (off, n, x.ev s))).map fun cs => (true, .agg cs)) (fun t ht _ => ?_) h
    have e : (ps.map fun (off, n, x) => (off, n, x.ev t)) = ps.map fun (off, n, x) => (off, n, x.ev s) := List.map_congr_left fun x hx => by
      have := s1 (x := x.2.2) ht (fun n hn => by simp only [IOp.rd, List.mem_flatMap]; exact ⟨x, hx, hn⟩)
      show (x.1, x.2.1, _) = (x.1, x.2.1, _)
      rw [this]
    simp only [step, e, IOp.dst, St.setO, Option.map_map]
    rfl
  | fld d off n agg x =>
    refine of_simple (match x.ev s with | .agg cs => if off + n ≤ cs.length then some (true, disown (loaded agg ((cs.drop off).take n))) else none | _ => none) (fun t ht _ => ?_) h
    have e0 : x.ev t = x.ev s := s1 ht (by simp +contextual [IOp.rd])
    simp only [step, e0, IOp.dst, St.setO]
    split
    · split <;> first | rfl | (simp_all; done)
    · first | rfl | (simp_all; done)
  | fad d off x =>
    refine of_simple (match x.ev s with | .ea cs => some (true, .ea (cs.drop off)) | .ptr id o => some (true, .ptr id (o + off)) | _ => none) (fun t ht _ => ?_) h
    have e0 : x.ev t = x.ev s := s1 ht (by simp +contextual [IOp.rd])
    simp only [step, e0, IOp.dst, St.setO]
    split <;> first | rfl | (simp_all; done)
  | ld d n agg take x =>
    cases take with
    | true => simp [IOp.cls] at hw
    | false =>
      refine of_simple (match x.ev s with | .ea cs => if n ≤ cs.length then some (true, disown (loaded agg (cs.take n))) else none | .ptr id o => (match s.obj id with | some cs => if o + n ≤ cs.length then some (true, disown (loaded agg ((cs.drop o).take n))) else none | none => none) | _ => none) (fun t ht hh => ?_) h
      have e0 : x.ev t = x.ev s := s1 ht (by simp +contextual [IOp.rd])
      have e1 : ∀ id, t.obj id = s.obj id := fun id => by simp only [St.obj]; rw [hh rfl]
      simp only [step, e0, e1, IOp.dst, St.setO]
      split
      · split <;> first | rfl | (simp_all; done)
      · split
        · split <;> first | rfl | (simp_all; done)
        · first | rfl | (simp_all; done)
      · first | rfl | (simp_all; done)
  | mks d k x =>
    refine of_simple (match x.ev s with | .int _ n => some (decide (0 ≤ n) && decide (n * k.bytes ≤ reach), .sl k .own (List.replicate n.toNat (dflt k))) | _ => none) (fun t ht _ => ?_) h
    have e0 : x.ev t = x.ev s := s1 ht (by simp +contextual [IOp.rd])
    simp only [step, e0, IOp.dst, St.setO]
    split <;> first | rfl | (simp_all; done)
  | ext d i x =>
    refine of_simple (match x.ev s with | .tup vs => if i < vs.length then some (true, disown (vs.getD i .undef)) else none | _ => none) (fun t ht _ => ?_) h
    have e0 : x.ev t = x.ev s := s1 ht (by simp +contextual [IOp.rd])
    simp only [step, e0, IOp.dst, St.setO]
    split
    · split <;> first | rfl | (simp_all; done)
    · first | rfl | (simp_all; done)
  | nck d x =>
    refine of_simple (match x.ev s with | .ptr id o => some (true, .ptr id o) | .ea cs => some (true, .ea cs) | _ => none) (fun t ht _ => ?_) h
    have e0 : x.ev t = x.ev s := s1 ht (by simp +contextual [IOp.rd])
    simp only [step, e0, IOp.dst]
    split <;> first | rfl | (simp_all; done)
  | beq d neg x y =>
    refine of_simple (match x.ev s, y.ev s with | .bool p, .bool q => some (true, .bool (cond neg (!(p == q)) (p == q))) | _, _ => none) (fun t ht _ => ?_) h
    have e0 : x.ev t = x.ev s := s1 ht (by simp +contextual [IOp.rd])
    have e1 : y.ev t = y.ev s := s1 ht (by simp +contextual [IOp.rd])
    simp only [step, e0, e1, IOp.dst, St.setO]
    split <;> first | rfl | (simp_all; done)
  | peq d neg x y =>
    refine of_simple (match x.ev s, y.ev s with | .nilp, .nilp => some (true, .bool (!neg)) | .nilp, .ptr _ _ => some (true, .bool neg) | .ptr _ _, .nilp => some (true, .bool neg) | _, _ => none) (fun t ht _ => ?_) h
    have e0 : x.ev t = x.ev s := s1 ht (by simp +contextual [IOp.rd])
    have e1 : y.ev t = y.ev s := s1 ht (by simp +contextual [IOp.rd])
    simp only [step, e0, e1, IOp.dst, St.setO]
    split <;> first | rfl | (simp_all; done)
  | mn3 d x y z =>
    refine of_simple (match x.ev s, y.ev s, z.ev s with | .int k a, .int k' b, .int k'' c => if k = k' ∧ k = k'' then some (true, .int k (if c < (if b < a then b else a) then c else (if b < a then b else a))) else none | _, _, _ => none) (fun t ht _ => ?_) h
    have e0 : x.ev t = x.ev s := s1 ht (by simp +contextual [IOp.rd])
    have e1 : y.ev t = y.ev s := s1 ht (by simp +contextual [IOp.rd])
    have e2 : z.ev t = z.ev s := s1 ht (by simp +contextual [IOp.rd])
    simp only [step, e0, e1, e2, IOp.dst, St.setO]
    split
    · rename_i k a k' b k'' c hx hy hz
      simp only [hx, hy, hz]
      split <;> rfl
    · first | rfl | (simp_all; done)
  | mx d mn x y =>
    refine of_simple (match x.ev s, y.ev s with | .int k a, .int k' b => if k = k' then some (true, .int k (if mn then (if b < a then b else a) else (if a < b then b else a))) else none | _, _ => none) (fun t ht _ => ?_) h
    have e0 : x.ev t = x.ev s := s1 ht (by simp +contextual [IOp.rd])
    have e1 : y.ev t = y.ev s := s1 ht (by simp +contextual [IOp.rd])
    simp only [step, e0, e1, IOp.dst, St.setO]
    split
    · split <;> first | rfl | (simp_all; done)
    · first | rfl | (simp_all; done)
  | call d f as =>
    have hf : imp.contains f = false := by
      simp only [IOp.cls] at hw
      split at hw
      · omega
      · rename_i hf; simpa using hf
    refine of_simple ((Γ f (as.map fun x => disown (x.ev s)) []).map fun x => (x.1, x.2.1)) (fun t ht _ => ?_) h
    have e : (as.map fun x => disown (x.ev t)) = as.map fun x => disown (x.ev s) := List.map_congr_left fun x hx => by
      rw [s1 (x := x) ht (fun n hn => by simp only [IOp.rd, List.mem_flatMap]; exact ⟨x, hx, hn⟩)]
    simp only [step, e, IOp.dst]
    rw [hP.pure _ _ _ hf]
    cases Γ f (as.map fun x => disown (x.ev s)) [] with
    | none => rfl
    | some p => rfl


def St.put (s : St) (u : List (Nat × V)) (q : Option (List AObj)) : St := { s.upd u with hp := q.getD s.hp }

/-- the same, for any operation: what it makes of the objects too -/
theorem step_effect (hP : PureS Γ imp) {o : IOp} {s : St} {c : Bool} {s' : St} (h : step Γ o s = some (c, s')) :
    ∃ (u : List (Nat × V)) (q : Option (List AObj)), (∀ p ∈ u, p.1 ∈ o.wr) ∧ (o.cls imp ≤ 1 → q = none) ∧ s' = s.put u q ∧
      ∀ t : St, (∀ n ∈ o.rd, t.get n = s.get n) → (1 ≤ o.cls imp → t.hp = s.hp) → step Γ o t = some (c, t.put u q) := by
  have s1 : ∀ {x : ASrc} {l : List Nat} {t : St}, (∀ n ∈ l, t.get n = s.get n) → (∀ n ∈ x.slots, n ∈ l) → x.ev t = x.ev s := fun h1 h2 => src_same fun n hn => h1 n (h2 n hn)
  by_cases hw : o.cls imp ≤ 1
  · obtain ⟨u, h1, h2, h3⟩ := step_local hP hw h
    exact ⟨u, none, h1, fun _ => rfl, h2, fun t ht hh => h3 t ht (fun e => hh (by omega))⟩
  · have hno : ∀ {q : Option (List AObj)}, o.cls imp ≤ 1 → q = none := fun h => absurd h hw
    cases o with
    | new d zero =>
      obtain ⟨rfl, rfl⟩ : true = c ∧ _ = s' := by simpa [step] using h
      refine ⟨[(d, .ptr s.hp.length 0)], some (s.hp ++ [some zero]), by simp [IOp.wr, IOp.dst], hno, rfl, fun t ht hh => ?_⟩
      have e := hh (by simp [IOp.cls])
      simp only [step, e]
      rfl
    | aro d n =>
      obtain ⟨rfl, rfl⟩ : true = c ∧ _ = s' := by simpa [step] using h
      refine ⟨[(d, .ptr s.hp.length 0)], some (s.hp ++ [some [.rb (List.replicate n 0)]]), by simp [IOp.wr, IOp.dst], hno, rfl, fun t ht hh => ?_⟩
      have e := hh (by simp [IOp.cls])
      simp only [step, e]
      rfl
    | newb d zero =>
      obtain ⟨rfl, rfl⟩ : true = c ∧ _ = s' := by simpa [step] using h
      refine ⟨[(d, .ptr s.hp.length 0)], some (s.hp ++ [some zero]), by simp [IOp.wr, IOp.dst], hno, rfl, fun t ht hh => ?_⟩
      have e := hh (by simp [IOp.cls])
      simp only [step, e]
      rfl
    | s2o d x =>
      have e0 : ∀ t : St, (∀ n' ∈ (IOp.s2o d x).rd, t.get n' = s.get n') → x.ev t = x.ev s := fun t ht => s1 ht (by simp +contextual [IOp.rd])
      simp only [step] at h
      split at h
      · rename_i l hx
        simp only [Option.some.injEq, Prod.mk.injEq] at h
        obtain ⟨rfl, rfl⟩ := h
        refine ⟨[(d, .so s.hp.length l.length)], some (s.hp ++ [some [.rb l]]), by simp [IOp.wr, IOp.dst], hno, rfl, fun t ht hh => ?_⟩
        have e := hh (by simp [IOp.cls])
        simp only [step, e0 t ht, hx, e]
        rfl
      · simp at h
    | blo d ps =>
      have e0 : ∀ t : St, (∀ n' ∈ (IOp.blo d ps).rd, t.get n' = s.get n') → ps.map (·.ev t) = ps.map (·.ev s) := fun t ht => List.map_congr_left fun x hx => s1 (x := x) ht (fun n hn => by simp only [IOp.rd, List.mem_flatMap]; exact ⟨x, hx, hn⟩)
      simp only [step, Option.map_eq_some_iff] at h
      obtain ⟨l, hl, h⟩ := h
      simp only [Prod.mk.injEq] at h
      obtain ⟨rfl, rfl⟩ := h
      refine ⟨[(d, .so s.hp.length l.length)], some (s.hp ++ [some [.rb l]]), by simp [IOp.wr, IOp.dst], hno, rfl, fun t ht hh => ?_⟩
      have e := hh (by simp [IOp.cls])
      simp only [step, e0 t ht, hl, e, Option.map_some]
      rfl
    | mko d x =>
      have e0 : ∀ t : St, (∀ n' ∈ (IOp.mko d x).rd, t.get n' = s.get n') → x.ev t = x.ev s := fun t ht => s1 ht (by simp +contextual [IOp.rd])
      simp only [step] at h
      split at h
      · rename_i k n hx
        simp only [Option.some.injEq, Prod.mk.injEq] at h
        obtain ⟨rfl, rfl⟩ := h
        refine ⟨[(d, .so s.hp.length n.toNat)], some (s.hp ++ [some [.rb (List.replicate n.toNat 0)]]), by simp [IOp.wr, IOp.dst], hno, rfl, fun t ht hh => ?_⟩
        have e := hh (by simp [IOp.cls])
        simp only [step, e0 t ht, hx, e]
        rfl
      · simp at h
    | stw d n x v =>
      simp only [step] at h
      split at h
      · rename_i id k i o hx
        cases ho : s.rowW id with
        | none => rw [ho] at h; simp at h
        | some p =>
          obtain ⟨k', xs⟩ := p
          rw [ho] at h
          simp only at h
          split at h
          · rename_i hcond
            cases he : setElt k' (xs.getD i (dflt k')) o (v.ev s).cells with
            | none => rw [he] at h; simp at h
            | some x2 =>
              rw [he] at h
              simp only [Option.some.injEq, Prod.mk.injEq] at h
              obtain ⟨rfl, rfl⟩ := h
              refine ⟨d.toList.map (fun d => (d, V.undef)), some (s.hp.set id (some [.rw k' (xs.set i x2)])), ?_, hno, ?_, ?_⟩
              · intro p hp
                simp only [List.mem_map] at hp
                obtain ⟨m, hm, rfl⟩ := hp
                simp [IOp.wr, IOp.dst, hm]
              · simp only [St.put, ← setO_upd]
                cases d <;> rfl
              · intro t ht hh
                have e := hh (by simp [IOp.cls])
                have e0 : x.ev t = x.ev s := s1 ht (by simp +contextual [IOp.rd])
                have e1 : v.ev t = v.ev s := s1 ht (by simp +contextual [IOp.rd])
                have e3 : t.rowW id = some ⟨k', xs⟩ := by rw [← ho]; simp only [St.rowW]; rw [e]
                simp only [step, e0, e1, hx, e3]
                rw [if_pos hcond, he, ← e]
                simp only [St.put, ← setO_upd]
                cases d <;> rfl
          · simp at h
      · simp at h
    | sto d x v =>
      simp only [step] at h
      split at h
      · rename_i id o n hx hv
        split at h
        · rename_i xs ho
          simp only [Option.some.injEq, Prod.mk.injEq] at h
          obtain ⟨rfl, rfl⟩ := h
          refine ⟨d.toList.map (fun d => (d, V.undef)), some (s.hp.set id (some [.rb (xs.set o (UInt8.ofNat n.toNat))])), ?_, hno, ?_, ?_⟩
          · intro p hp
            simp only [List.mem_map] at hp
            obtain ⟨m, hm, rfl⟩ := hp
            simp [IOp.wr, IOp.dst, hm]
          · simp only [St.put, ← setO_upd]
            cases d <;> rfl
          · intro t ht hh
            have e := hh (by simp [IOp.cls])
            have e0 : x.ev t = x.ev s := s1 ht (by simp +contextual [IOp.rd])
            have e1 : v.ev t = v.ev s := s1 ht (by simp +contextual [IOp.rd])
            have e3 : t.row id = s.row id := by simp only [St.row]; rw [e]
            simp only [step, e0, e1, e3, hx, hv, ho]
            rw [← e]
            simp only [St.put, ← setO_upd]
            cases d <;> rfl
        · simp at h
      · simp at h
    | boxb d j E n x =>
      have e0 : ∀ t : St, (∀ n' ∈ (IOp.boxb d j E n x).rd, t.get n' = s.get n') → x.ev t = x.ev s := fun t ht => s1 ht (by simp +contextual [IOp.rd])
      simp only [step] at h
      split at h
      · rename_i cs hx
        split at h
        · rename_i hlen
          split at h
          · rename_i hj
            simp only [Option.some.injEq, Prod.mk.injEq] at h
            obtain ⟨rfl, rfl⟩ := h
            refine ⟨[(d, .ptr s.hp.length 0)], some (s.hp ++ [some (cs.set j (.bn E n))]), by simp [IOp.wr, IOp.dst], hno, rfl, fun t ht hh => ?_⟩
            have e := hh (by simp [IOp.cls])
            simp only [step, e0 t ht, hx, e]
            rw [if_pos hlen, hj]
            rfl
          · simp at h
        · simp at h
      · simp at h
    | box d x =>
      have e0 : ∀ t : St, (∀ n ∈ (IOp.box d x).rd, t.get n = s.get n) → x.ev t = x.ev s := fun t ht => s1 ht (by simp +contextual [IOp.rd])
      simp only [step] at h
      split at h
      · rename_i cs hx
        simp only [Option.some.injEq, Prod.mk.injEq] at h
        obtain ⟨rfl, rfl⟩ := h
        refine ⟨[(d, .ptr s.hp.length 0)], some (s.hp ++ [some cs]), by simp [IOp.wr, IOp.dst], hno, rfl, fun t ht hh => ?_⟩
        have e := hh (by simp [IOp.cls])
        simp only [step, e0 t ht, hx, e]
        rfl
      · rename_i hx
        split at h
        · rename_i hone
          simp only [Option.some.injEq, Prod.mk.injEq] at h
          obtain ⟨rfl, rfl⟩ := h
          refine ⟨[(d, .ptr s.hp.length 0)], some (s.hp ++ [some [disown (x.ev s)]]), by simp [IOp.wr, IOp.dst], hno, rfl, fun t ht hh => ?_⟩
          have e := hh (by simp [IOp.cls])
          simp only [step, e0 t ht, e]
          rw [if_pos hone]; rfl
        · simp at h
    | st d n x v =>
      simp only [step] at h
      split at h
      · rename_i id o hx
        split at h
        · rename_i cs ho
          split at h
          · rename_i hcond
            simp only [Option.some.injEq, Prod.mk.injEq] at h
            obtain ⟨rfl, rfl⟩ := h
            refine ⟨v.takes.map (fun n => (n, disown (s.get n))) ++ d.toList.map (fun d => (d, V.undef)), some (s.hp.set id (some (cs.take o ++ (v.ev s).cells ++ cs.drop (o + n)))), ?_, hno, ?_, ?_⟩
            · intro p hp
              simp only [List.mem_append, List.mem_map] at hp
              rcases hp with ⟨m, hm, rfl⟩ | ⟨m, hm, rfl⟩
              · simp [IOp.wr, IOp.dst, hm]
              · simp [IOp.wr, IOp.dst, hm]
            · simp only [St.put, ← upd_upd, ← after_upd, ← setO_upd]
              cases d <;> cases v <;> rfl
            · intro t ht hh
              have e := hh (by simp [IOp.cls])
              have e0 : x.ev t = x.ev s := s1 ht (by simp +contextual [IOp.rd])
              have e1 : v.ev t = v.ev s := s1 ht (by simp +contextual [IOp.rd])
              have e3 : t.obj id = s.obj id := by simp only [St.obj]; rw [e]
              have e2 : v.takes.map (fun n => (n, disown (t.get n))) = v.takes.map (fun n => (n, disown (s.get n))) := by
                cases v with
                | tk n => simp only [ASrc.takes, List.map]; rw [ht n (by simp [IOp.rd, ASrc.slots])]
                | _ => rfl
              simp only [step, e0, e1, e3, hx, ho]
              rw [if_pos hcond, ← e2, ← e]
              simp only [St.put, ← upd_upd, ← after_upd, ← setO_upd]
              cases d <;> cases v <;> rfl
          · simp at h
        · simp at h
      · simp at h
    | ld d n agg take x =>
      cases take with
      | false => simp [IOp.cls] at hw
      | true =>
        have e0 : ∀ t : St, (∀ m ∈ (IOp.ld d n agg true x).rd, t.get m = s.get m) → x.ev t = x.ev s := fun t ht => s1 ht (by simp +contextual [IOp.rd])
        simp only [step] at h
        split at h
        · rename_i cs hx
          split at h
          · rename_i hle
            simp only [Option.some.injEq, Prod.mk.injEq] at h
            obtain ⟨rfl, rfl⟩ := h
            refine ⟨[(d, _)], none, by simp [IOp.wr, IOp.dst], hno, rfl, fun t ht hh => ?_⟩
            simp only [step, e0 t ht, hx]
            rw [if_pos hle]; rfl
          · simp at h
        · rename_i id o hx
          split at h
          · rename_i cs ho
            split at h
            · rename_i hle
              simp only [if_true] at h
              cases hnb : noBn (cs.getD o .undef) with
              | false => rw [hnb] at h; simp at h
              | true =>
              rw [hnb] at h
              simp only [if_true, Option.some.injEq, Prod.mk.injEq] at h
              obtain ⟨rfl, rfl⟩ := h
              refine ⟨[(d, loaded agg ((cs.drop o).take n))], some (s.hp.set id (some (cs.set o (disown (cs.getD o .undef))))), by simp [IOp.wr, IOp.dst], hno, rfl, fun t ht hh => ?_⟩
              have e := hh (by simp [IOp.cls])
              have e3 : t.obj id = s.obj id := by simp only [St.obj]; rw [e]
              simp only [step, e0 t ht, hx, e3, ho]
              rw [if_pos hle, hnb, ← e]; rfl
            · simp at h
          · simp at h
        · simp at h
    | call d f as =>
      have e0 : ∀ t : St, (∀ n ∈ (IOp.call d f as).rd, t.get n = s.get n) → (as.map fun x => disown (x.ev t)) = as.map fun x => disown (x.ev s) := fun t ht => List.map_congr_left fun x hx => by
        rw [s1 (x := x) ht (fun n hn => by simp only [IOp.rd, List.mem_flatMap]; exact ⟨x, hx, hn⟩)]
      simp only [step] at h
      split at h
      · rename_i c' v hp' hg
        simp only [Option.some.injEq, Prod.mk.injEq] at h
        obtain ⟨rfl, rfl⟩ := h
        refine ⟨d.toList.map (fun d => (d, v)), some hp', ?_, hno, ?_, fun t ht hh => ?_⟩
        · intro p hp
          simp only [List.mem_map] at hp
          obtain ⟨m, hm, rfl⟩ := hp
          simp [IOp.wr, IOp.dst, hm]
        · simp only [St.put, ← setO_upd]
          cases d <;> rfl
        · have e := hh (by omega)
          simp only [step, e0 t ht, e, hg]
          simp only [St.put, ← setO_upd]
          cases d <;> rfl
      · simp at h
    | dcall d f x as =>
      have ex : ∀ t : St, (∀ n ∈ (IOp.dcall d f x as).rd, t.get n = s.get n) → x.ev t = x.ev s := fun t ht => s1 (x := x) ht (fun n hn => by simp only [IOp.rd, List.mem_append]; exact .inl hn)
      have e0 : ∀ t : St, (∀ n ∈ (IOp.dcall d f x as).rd, t.get n = s.get n) → (as.map fun x => disown (x.ev t)) = as.map fun x => disown (x.ev s) := fun t ht => List.map_congr_left fun y hy => by
        rw [s1 (x := y) ht (fun n hn => by simp only [IOp.rd, List.mem_append, List.mem_flatMap]; exact .inr ⟨y, hy, hn⟩)]
      simp only [step] at h
      split at h
      · rename_i f' caps hx
        split at h
        · rename_i c' v hp' hg
          simp only [Option.some.injEq, Prod.mk.injEq] at h
          obtain ⟨rfl, rfl⟩ := h
          refine ⟨d.toList.map (fun d => (d, v)), some hp', ?_, hno, ?_, fun t ht hh => ?_⟩
          · intro p hp
            simp only [List.mem_map] at hp
            obtain ⟨m, hm, rfl⟩ := hp
            simp [IOp.wr, IOp.dst, hm]
          · simp only [St.put, ← setO_upd]
            cases d <;> rfl
          · have e := hh (by omega)
            simp only [step, e0 t ht, ex t ht, hx, e, hg]
            simp only [St.put, ← setO_upd]
            cases d <;> rfl
        · simp at h
      · simp at h
    | _ => simp [IOp.cls] at hw

/-- one operation, with its guard -/
def gstep (Γ : ASpec) (x : GOp) (s : St) : Option St :=
  match x.g with
  | none => match stepO Γ x.ob x.o s with | some (c, s') => chk c (some s') | none => none
  | some (g, w) => match s.get g with
    | .bool b => match b == w with
      | true => match stepO Γ x.ob x.o s with | some (c, s') => chk c (some s') | none => none
      | false => some (s.setO x.o.dst (.tup []))
    | .tup [] => some (s.setO x.o.dst (.tup []))
    | _ => none

theorem set_get (s : St) (n : Nat) {v : V} (h : s.get n = v) : s.set n v = s := by
  subst h
  simp only [St.set, St.get, List.getD]
  congr 1
  apply List.ext_getElem?
  intro m
  rw [List.getElem?_set]
  split
  · rename_i e
    subst e
    split
    · rename_i hlt; simp [List.getElem?_eq_getElem hlt]
    · rename_i hlt; simp [List.getElem?_eq_none (Nat.le_of_not_lt hlt)]
  · rfl

theorem runOps_gstep {R : Type} (x : GOp) (l : List GOp) (K : St → Option R) (s : St) : runOps Γ (x :: l) K s = (gstep Γ x s).bind (runOps Γ l K) := by
  obtain ⟨g, o, ob⟩ := x
  have go : ∀ s, (match stepO Γ ob o s with | some (c, s') => chk c (runOps Γ l K s') | none => none) = (match stepO Γ ob o s with | some (c, s') => chk c (some s') | none => none).bind (runOps Γ l K) := by
    intro s
    split
    · rename_i c s' _; cases c <;> rfl
    · rfl
  cases g with
  | none => simp only [runOps, gstep]; exact go s
  | some g =>
    obtain ⟨g, w⟩ := g
    simp only [runOps, gstep]
    split
    · rename_i b hb
      rw [hb]
      cases b <;> cases w <;> simp only [cond_true, cond_false, set_get s g hb] <;> first | exact go s | rfl
    · rename_i hb
      rw [hb]
      rfl
    · rename_i hno hno2
      split
      · rename_i b hb; exact absurd hb (hno b)
      · rename_i hb; exact absurd hb hno2
      · rfl

theorem foot_same {o : IOp} {s t : St} (h : ∀ n ∈ o.rd, t.get n = s.get n) : o.foot t = o.foot s := by
  cases o with
  | ld d n agg take x => simp only [IOp.foot]; rw [src_same (x := x) h]
  | st d n x v => simp only [IOp.foot]; rw [src_same (x := x) fun n hn => h n (by simp [IOp.rd, hn])]
  | call d f as =>
    have e : as.map (fun x => disown (x.ev t)) = as.map (fun x => disown (x.ev s)) := List.map_congr_left fun x hx => by rw [src_same fun n hn => h n (by simp only [IOp.rd, List.mem_flatMap]; exact ⟨x, hx, hn⟩)]
    simp only [IOp.foot, e]
  | ldw d n agg x => simp only [IOp.foot]; rw [src_same (x := x) h]
  | stw d n x v => simp only [IOp.foot]; rw [src_same (x := x) fun n hn => h n (by simp [IOp.rd, hn])]
  | _ => rfl

theorem stepO_same {ob : Option (List Nat × List Nat)} {o : IOp} {s t : St} {p q : Bool × St} (h : stepO Γ ob o s = some p) (ht : ∀ n ∈ o.rd, t.get n = s.get n) (hq : step Γ o t = some q) : stepO Γ ob o t = some q := by
  cases ob with
  | none => exact hq
  | some l =>
    simp only [stepO] at h ⊢
    have e : o.within l t = o.within l s := by simp only [IOp.within, foot_same ht]
    rw [e]
    cases hw : o.within l s with
    | true => exact hq
    | false => rw [hw] at h; simp at h

def GOp.rd (x : GOp) : List Nat := (match x.g with | some (g, _) => [g] | none => []) ++ x.o.rd

theorem gstep_effect (hP : PureS Γ imp) {x : GOp} {s s' : St} (h : gstep Γ x s = some s') :
    ∃ (u : List (Nat × V)) (q : Option (List AObj)), (∀ p ∈ u, p.1 ∈ x.o.wr) ∧ (x.o.cls imp ≤ 1 → q = none) ∧ s' = s.put u q ∧
      ∀ t : St, (∀ n ∈ x.rd, t.get n = s.get n) → (1 ≤ x.o.cls imp → t.hp = s.hp) → gstep Γ x t = some (t.put u q) := by
  obtain ⟨g, o, ob⟩ := x
  have go : (match stepO Γ ob o s with | some (c, s') => chk c (some s') | none => none) = some s' → ∃ (u : List (Nat × V)) (q : Option (List AObj)), (∀ p ∈ u, p.1 ∈ o.wr) ∧ (o.cls imp ≤ 1 → q = none) ∧ s' = s.put u q ∧
      ∀ t : St, (∀ n ∈ o.rd, t.get n = s.get n) → (1 ≤ o.cls imp → t.hp = s.hp) → (match stepO Γ ob o t with | some (c, s') => chk c (some s') | none => none) = some (t.put u q) := by
    intro h
    split at h
    · rename_i c s₁ hst
      cases c with
      | false => simp [chk] at h
      | true =>
        obtain rfl : s₁ = s' := by simpa [chk] using h
        obtain ⟨u, q, h1, h2, h3, h4⟩ := step_effect hP (stepO_some hst)
        exact ⟨u, q, h1, h2, h3, fun t ht hh => by rw [stepO_same hst ht (h4 t ht hh)]; rfl⟩
    · simp at h
  cases g with
  | none =>
    obtain ⟨u, q, h1, h2, h3, h4⟩ := go h
    exact ⟨u, q, h1, h2, h3, fun t ht hh => h4 t (fun n hn => ht n (by simp [GOp.rd, hn])) hh⟩
  | some g =>
    obtain ⟨g, w⟩ := g
    simp only [gstep] at h
    split at h
    · rename_i b hb
      split at h
      · rename_i hbw
        obtain ⟨u, q, h1, h2, h3, h4⟩ := go h
        refine ⟨u, q, h1, h2, h3, fun t ht hh => ?_⟩
        have e := ht g (by simp [GOp.rd])
        simp only [gstep, e, hb, hbw]
        exact h4 t (fun n hn => ht n (by simp [GOp.rd, hn])) hh
      · rename_i hbw
        obtain rfl : _ = s' := by simpa using h
        refine ⟨o.dst.toList.map (fun d => (d, V.tup [])), none, ?_, fun _ => rfl, by rw [setO_upd]; rfl, fun t ht hh => ?_⟩
        · intro p hp
          simp only [List.mem_map] at hp
          obtain ⟨m, hm, rfl⟩ := hp
          simp [IOp.wr, hm]
        · have e := ht g (by simp [GOp.rd])
          simp only [gstep, e, hb, hbw]
          rw [setO_upd]; rfl
    · rename_i hb
      obtain rfl : _ = s' := by simpa using h
      refine ⟨o.dst.toList.map (fun d => (d, V.tup [])), none, ?_, fun _ => rfl, by rw [setO_upd]; rfl, fun t ht hh => ?_⟩
      · intro p hp
        simp only [List.mem_map] at hp
        obtain ⟨m, hm, rfl⟩ := hp
        simp [IOp.wr, hm]
      · have e := ht g (by simp [GOp.rd])
        simp only [gstep, e, hb]
        rw [setO_upd]; rfl
    · simp at h


def disj (a b : List Nat) : Bool := a.all fun n => !b.contains n

/-- the operations whose objects can be told -/
def IOp.obable (imp : List Nat) : IOp → Bool
  | .ld .. | .st .. | .ldw .. | .stw .. => true
  | .call _ f _ => imp.contains (f + 2000000)
  | _ => false

/-- do two operations keep to objects apart? -/
def apart (imp : List Nat) (x y : GOp) : Bool := (x.o.obable imp && y.o.obable imp) && (match x.ob, y.ob with
  | some (r, w), some (r', w') => disj w r' && (disj w w' && disj w' r)
  | _, _ => false)

/-- two operations that may change places -/
def indep (imp : List Nat) (x y : GOp) : Bool :=
  disj x.o.wr y.rd && (disj y.o.wr x.rd && (disj x.o.wr y.o.wr && (((Nat.ble (x.o.cls imp) 1 || Nat.beq (y.o.cls imp) 0) && (Nat.ble (y.o.cls imp) 1 || Nat.beq (x.o.cls imp) 0)) || apart imp x y)))

def St.putH (s : St) (u : List (Nat × V)) (q : List (Nat × AObj)) : St := { s.upd u with hp := updH s.hp q }

theorem obj_same {s t : St} {i : Nat} (h : t.hp[i]? = s.hp[i]?) : t.obj i = s.obj i := by
  unfold St.obj
  rw [getD_same h]

theorem rowW_same {s t : St} {i : Nat} (h : t.hp[i]? = s.hp[i]?) : t.rowW i = s.rowW i := by
  unfold St.rowW
  rw [getD_same h]

/-- what an operation makes of the objects that it names, whatever the others are -/
theorem step_foot (hP : PureS Γ imp) {o : IOp} (ho : o.obable imp = true) {s : St} {c : Bool} {s' : St} {r w : List Nat} (hf : o.foot s = some (r, w)) (h : step Γ o s = some (c, s')) :
    ∃ (u : List (Nat × V)) (q : List (Nat × AObj)), (∀ p ∈ u, p.1 ∈ o.wr) ∧ (∀ p ∈ q, p.1 ∈ w) ∧ s' = s.putH u q ∧
      ∀ t : St, (∀ n ∈ o.rd, t.get n = s.get n) → t.hp.length = s.hp.length → (∀ i, i ∈ r ∨ i ∈ w → t.hp[i]? = s.hp[i]?) → step Γ o t = some (c, t.putH u q) := by
  cases o with
  | ld d n agg take x =>
    have ex : ∀ t : St, (∀ n ∈ (IOp.ld d n agg take x).rd, t.get n = s.get n) → x.ev t = x.ev s := fun t ht => src_same ht
    cases hx : x.ev s with
    | ea cs =>
      simp only [step, hx] at h
      split at h
      · rename_i hn
        simp only [Option.some.injEq, Prod.mk.injEq] at h
        obtain ⟨rfl, rfl⟩ := h
        refine ⟨[(d, disown (loaded agg (cs.take n)))], [], by simp [IOp.wr, IOp.dst], by simp, rfl, fun t ht _ _ => ?_⟩
        simp only [step, ex t ht, hx, if_pos hn]
        rfl
      · simp at h
    | ptr id o =>
      simp only [IOp.foot, hx, Option.some.injEq] at hf
      simp only [step, hx] at h
      cases hob : s.obj id with
      | none => rw [hob] at h; simp at h
      | some cs =>
        rw [hob] at h
        simp only at h
        split at h
        · rename_i hn
          cases take with
          | false =>
            simp only [cond_false, Prod.mk.injEq] at hf
            obtain ⟨rfl, rfl⟩ := hf
            simp only [Bool.false_eq_true, if_false, Option.some.injEq, Prod.mk.injEq] at h
            obtain ⟨rfl, rfl⟩ := h
            refine ⟨[(d, disown (loaded agg ((cs.drop o).take n)))], [], by simp [IOp.wr, IOp.dst], by simp, rfl, fun t ht _ hh => ?_⟩
            have e := obj_same (hh id (.inl (by simp)))
            simp only [step, ex t ht, hx, e, hob, if_pos hn]
            rfl
          | true =>
            simp only [cond_true, Prod.mk.injEq] at hf
            obtain ⟨rfl, rfl⟩ := hf
            simp only [if_true] at h
            split at h
            · rename_i hb
              simp only [Option.some.injEq, Prod.mk.injEq] at h
              obtain ⟨rfl, rfl⟩ := h
              refine ⟨[(d, loaded agg ((cs.drop o).take n))], [(id, some (cs.set o (disown (cs.getD o .undef))))], by simp [IOp.wr, IOp.dst], by simp, rfl, fun t ht _ hh => ?_⟩
              have e := obj_same (hh id (.inr (by simp)))
              simp only [step, ex t ht, hx, e, hob, if_pos hn, if_true, if_pos hb]
              rfl
            · simp at h
        · simp at h
    | _ => simp [IOp.foot, hx] at hf
  | st d n x v =>
    have ex : ∀ t : St, (∀ n ∈ (IOp.st d n x v).rd, t.get n = s.get n) → x.ev t = x.ev s := fun t ht => src_same fun n hn => ht n (by simp [IOp.rd, hn])
    have ev : ∀ t : St, (∀ n ∈ (IOp.st d n x v).rd, t.get n = s.get n) → v.ev t = v.ev s := fun t ht => src_same fun n hn => ht n (by simp [IOp.rd, hn])
    have ea : ∀ t : St, (∀ n ∈ (IOp.st d n x v).rd, t.get n = s.get n) → v.takes.map (fun n => (n, disown (t.get n))) = v.takes.map (fun n => (n, disown (s.get n))) := by
      intro t ht
      cases v with
      | tk m => simp only [ASrc.takes, List.map]; rw [ht m (by simp [IOp.rd, ASrc.slots])]
      | _ => rfl
    cases hx : x.ev s with
    | ptr id o =>
      simp only [IOp.foot, hx, Option.some.injEq, Prod.mk.injEq] at hf
      obtain ⟨rfl, rfl⟩ := hf
      simp only [step, hx] at h
      cases hob : s.obj id with
      | none => rw [hob] at h; simp at h
      | some cs =>
        rw [hob] at h
        simp only at h
        split at h
        · rename_i hn
          simp only [Option.some.injEq, Prod.mk.injEq] at h
          obtain ⟨rfl, rfl⟩ := h
          refine ⟨v.takes.map (fun n => (n, disown (s.get n))) ++ d.toList.map (fun d => (d, V.undef)), [(id, some (cs.take o ++ (v.ev s).cells ++ cs.drop (o + n)))], ?_, by simp, ?_, fun t ht _ hh => ?_⟩
          · intro p hp
            simp only [List.mem_append, List.mem_map] at hp
            rcases hp with ⟨m, hm, rfl⟩ | ⟨m, hm, rfl⟩
            · simp [IOp.wr, IOp.dst, hm]
            · simp only [Option.mem_toList] at hm
              simp [IOp.wr, IOp.dst, hm]
          · rw [after_upd, setO_upd]
            simp only [St.putH, ← upd_upd]
            rfl
          · have e := obj_same (hh id (.inr (by simp)))
            simp only [step, ex t ht, ev t ht, hx, e, hob, if_pos hn]
            rw [after_upd, setO_upd, ea t ht]
            simp only [St.putH, ← upd_upd]
            rfl
        · simp at h
    | _ => simp [IOp.foot, hx] at hf
  | call d f as =>
    have e : ∀ t : St, (∀ n ∈ (IOp.call d f as).rd, t.get n = s.get n) → as.map (fun x => disown (x.ev t)) = as.map (fun x => disown (x.ev s)) := fun t ht => List.map_congr_left fun x hx => by rw [src_same fun n hn => ht n (by simp only [IOp.rd, List.mem_flatMap]; exact ⟨x, hx, hn⟩)]
    simp only [IOp.foot, Option.some.injEq, Prod.mk.injEq] at hf
    obtain ⟨rfl, rfl⟩ := hf
    simp only [step] at h
    split at h
    · rename_i c' v' hp' hg
      simp only [Option.some.injEq, Prod.mk.injEq] at h
      obtain ⟨rfl, rfl⟩ := h
      obtain ⟨q, q1, rfl, q3⟩ := hP.loc f _ _ _ _ _ ho hg
      refine ⟨d.toList.map (fun d => (d, v')), q, ?_, q1, ?_, fun t ht hl hh => ?_⟩
      · intro p hp
        simp only [List.mem_map, Option.mem_toList] at hp
        obtain ⟨m, hm, rfl⟩ := hp
        simp [IOp.wr, IOp.dst, hm]
      · rw [setO_upd]; rfl
      · have := q3 t.hp hl (fun i hi => hh i (.inl hi))
        simp only [step, e t ht, this]
        rw [setO_upd]; rfl
    · simp at h
  | ldw d n agg x =>
    have ex : ∀ t : St, (∀ n ∈ (IOp.ldw d n agg x).rd, t.get n = s.get n) → x.ev t = x.ev s := fun t ht => src_same ht
    cases hx : x.ev s with
    | wp id k i o =>
      simp only [IOp.foot, hx, Option.some.injEq, Prod.mk.injEq] at hf
      obtain ⟨rfl, rfl⟩ := hf
      simp only [step, hx] at h
      cases hob : s.rowW id with
      | none => rw [hob] at h; simp at h
      | some p =>
        obtain ⟨k', xs⟩ := p
        rw [hob] at h
        simp only at h
        split at h
        · rename_i hn
          simp only [Option.some.injEq, Prod.mk.injEq] at h
          obtain ⟨rfl, rfl⟩ := h
          refine ⟨[(d, disown (loaded agg (((enc k' (xs.getD i (dflt k'))).drop o).take n)))], [], by simp [IOp.wr, IOp.dst], by simp, rfl, fun t ht _ hh => ?_⟩
          have e := rowW_same (hh id (.inl (by simp)))
          simp only [step, ex t ht, hx, e, hob, if_pos hn]
          rfl
        · simp at h
    | _ => simp [IOp.foot, hx] at hf
  | stw d n x v =>
    have ex : ∀ t : St, (∀ n ∈ (IOp.stw d n x v).rd, t.get n = s.get n) → x.ev t = x.ev s := fun t ht => src_same fun n hn => ht n (by simp [IOp.rd, hn])
    have ev : ∀ t : St, (∀ n ∈ (IOp.stw d n x v).rd, t.get n = s.get n) → v.ev t = v.ev s := fun t ht => src_same fun n hn => ht n (by simp [IOp.rd, hn])
    cases hx : x.ev s with
    | wp id k i o =>
      simp only [IOp.foot, hx, Option.some.injEq, Prod.mk.injEq] at hf
      obtain ⟨rfl, rfl⟩ := hf
      simp only [step, hx] at h
      cases hob : s.rowW id with
      | none => rw [hob] at h; simp at h
      | some p =>
        obtain ⟨k', xs⟩ := p
        rw [hob] at h
        simp only at h
        split at h
        · rename_i hn
          cases he : setElt k' (xs.getD i (dflt k')) o (v.ev s).cells with
          | none => rw [he] at h; simp at h
          | some x2 =>
            rw [he] at h
            simp only [Option.some.injEq, Prod.mk.injEq] at h
            obtain ⟨rfl, rfl⟩ := h
            refine ⟨d.toList.map (fun d => (d, V.undef)), [(id, some [.rw k' (xs.set i x2)])], ?_, by simp, ?_, fun t ht _ hh => ?_⟩
            · intro p hp
              simp only [List.mem_map, Option.mem_toList] at hp
              obtain ⟨m, hm, rfl⟩ := hp
              simp [IOp.wr, IOp.dst, hm]
            · rw [setO_upd]; rfl
            · have e := rowW_same (hh id (.inr (by simp)))
              simp only [step, ex t ht, ev t ht, hx, e, hob, if_pos hn, he]
              rw [setO_upd]; rfl
        · simp at h
    | _ => simp [IOp.foot, hx] at hf
  | _ => simp [IOp.obable] at ho

theorem within_spec {o : IOp} {R W : List Nat} {s : St} (h : o.within (R, W) s = true) : ∃ r w, o.foot s = some (r, w) ∧ (∀ i ∈ r, i ∈ R ∨ i ∈ W) ∧ ∀ i ∈ w, i ∈ W := by
  unfold IOp.within at h
  split at h
  · rename_i r w hf
    simp only [Bool.and_eq_true, List.all_eq_true, Bool.or_eq_true, List.any_eq_true] at h
    refine ⟨r, w, hf, ?_, ?_⟩
    · intro i hi
      rcases h.1 i hi with ⟨j, hj, e⟩ | ⟨j, hj, e⟩
      · left; rw [Nat.eq_of_beq_eq_true e]; exact hj
      · right; rw [Nat.eq_of_beq_eq_true e]; exact hj
    · intro i hi
      obtain ⟨j, hj, e⟩ := h.2 i hi
      rw [Nat.eq_of_beq_eq_true e]; exact hj
  · simp at h

theorem gstep_foot (hP : PureS Γ imp) {x : GOp} {R W : List Nat} (ho : x.o.obable imp = true) (hob : x.ob = some (R, W)) {s s' : St} (h : gstep Γ x s = some s') :
    ∃ (u : List (Nat × V)) (q : List (Nat × AObj)), (∀ p ∈ u, p.1 ∈ x.o.wr) ∧ (∀ p ∈ q, p.1 ∈ W) ∧ s' = s.putH u q ∧
      ∀ t : St, (∀ n ∈ x.rd, t.get n = s.get n) → t.hp.length = s.hp.length → (∀ i, i ∈ R ∨ i ∈ W → t.hp[i]? = s.hp[i]?) → gstep Γ x t = some (t.putH u q) := by
  obtain ⟨g, o, ob⟩ := x
  obtain rfl : ob = some (R, W) := hob
  have go : (match stepO Γ (some (R, W)) o s with | some (c, s') => chk c (some s') | none => none) = some s' → ∃ (u : List (Nat × V)) (q : List (Nat × AObj)), (∀ p ∈ u, p.1 ∈ o.wr) ∧ (∀ p ∈ q, p.1 ∈ W) ∧ s' = s.putH u q ∧
      ∀ t : St, (∀ n ∈ o.rd, t.get n = s.get n) → t.hp.length = s.hp.length → (∀ i, i ∈ R ∨ i ∈ W → t.hp[i]? = s.hp[i]?) → (match stepO Γ (some (R, W)) o t with | some (c, s') => chk c (some s') | none => none) = some (t.putH u q) := by
    intro h
    split at h
    · rename_i c s₁ hst
      cases c with
      | false => simp [chk] at h
      | true =>
        obtain rfl : s₁ = s' := by simpa [chk] using h
        have hw : o.within (R, W) s = true := by
          cases hw : o.within (R, W) s with
          | true => rfl
          | false => simp [stepO, hw] at hst
        obtain ⟨r, w, hf, hr, hwW⟩ := within_spec hw
        obtain ⟨u, q, h1, h2, h3, h4⟩ := step_foot hP ho hf (stepO_some hst)
        exact ⟨u, q, h1, fun p hp => hwW _ (h2 p hp), h3, fun t ht hl hh => by
          rw [stepO_same hst ht (h4 t ht hl (fun i hi => hi.elim (fun hi => hh i (hr i hi)) (fun hi => hh i (.inr (hwW i hi)))))]; rfl⟩
    · simp at h
  have off : ∀ s : St, s.setO o.dst (.tup []) = s.putH (o.dst.toList.map fun d => (d, V.tup [])) [] := fun s => by rw [setO_upd]; rfl
  have offw : ∀ p ∈ o.dst.toList.map fun d => (d, V.tup []), p.1 ∈ o.wr := by
    intro p hp
    simp only [List.mem_map] at hp
    obtain ⟨m, hm, rfl⟩ := hp
    simp [IOp.wr, hm]
  cases g with
  | none =>
    obtain ⟨u, q, h1, h2, h3, h4⟩ := go h
    exact ⟨u, q, h1, h2, h3, fun t ht => h4 t (fun n hn => ht n (by simp [GOp.rd, hn]))⟩
  | some g =>
    obtain ⟨g, w⟩ := g
    simp only [gstep] at h
    split at h
    · rename_i b hb
      split at h
      · rename_i hbw
        obtain ⟨u, q, h1, h2, h3, h4⟩ := go h
        refine ⟨u, q, h1, h2, h3, fun t ht hl hh => ?_⟩
        have e := ht g (by simp [GOp.rd])
        simp only [gstep, e, hb, hbw]
        exact h4 t (fun n hn => ht n (by simp [GOp.rd, hn])) hl hh
      · rename_i hbw
        obtain rfl : _ = s' := by simpa using h
        refine ⟨_, [], offw, by simp, off s, fun t ht hl hh => ?_⟩
        have e := ht g (by simp [GOp.rd])
        simp only [gstep, e, hb, hbw]
        rw [off]
    · rename_i hb
      obtain rfl : _ = s' := by simpa using h
      refine ⟨_, [], offw, by simp, off s, fun t ht hl hh => ?_⟩
      have e := ht g (by simp [GOp.rd])
      simp only [gstep, e, hb]
      rw [off]
    · simp at h

theorem disj_spec {a b : List Nat} (h : disj a b = true) : ∀ n ∈ a, n ∉ b := by
  intro n hn
  have := List.all_eq_true.1 h n hn
  simpa using this

theorem foldl_set_comm {α : Type} (u : List (Nat × α)) : ∀ (e : List α) (n : Nat) (v : α), (∀ p ∈ u, p.1 ≠ n) → u.foldl (fun e p => e.set p.1 p.2) (e.set n v) = (u.foldl (fun e p => e.set p.1 p.2) e).set n v := by
  induction u with
  | nil => intro e n v _; rfl
  | cons p u ih =>
    intro e n v h
    simp only [List.foldl_cons]
    rw [List.set_comm _ _ (Ne.symm (h p (List.mem_cons_self ..))), ih _ _ _ (fun q hq => h q (List.mem_cons_of_mem _ hq))]

theorem foldl_foldl_comm {α : Type} (v : List (Nat × α)) : ∀ (u : List (Nat × α)) (e : List α), (∀ p ∈ u, ∀ q ∈ v, p.1 ≠ q.1) →
    v.foldl (fun e p => e.set p.1 p.2) (u.foldl (fun e p => e.set p.1 p.2) e) = u.foldl (fun e p => e.set p.1 p.2) (v.foldl (fun e p => e.set p.1 p.2) e) := by
  induction v with
  | nil => intro u e _; rfl
  | cons q v ih =>
    intro u e h
    simp only [List.foldl_cons]
    rw [← foldl_set_comm u e q.1 q.2 (fun p hp => h p hp q (List.mem_cons_self ..)), ih u _ (fun p hp r hr => h p hp r (List.mem_cons_of_mem _ hr))]

theorem swap (hP : PureS Γ imp) {x y : GOp} (hi : indep imp y x = true) {s s1 s2 : St} (h1 : gstep Γ y s = some s1) (h2 : gstep Γ x s1 = some s2) :
    ∃ s1', gstep Γ x s = some s1' ∧ gstep Γ y s1' = some s2 := by
  simp only [indep, Bool.and_eq_true, Bool.or_eq_true, Nat.ble_eq] at hi
  obtain ⟨d1, d2, d3, hi⟩ := hi
  have d1 := disj_spec d1
  have d2 := disj_spec d2
  have d3 := disj_spec d3
  rcases hi with ⟨c1, c2⟩ | ha
  case inr =>
    simp only [apart, Bool.and_eq_true] at ha
    obtain ⟨⟨oy, ox⟩, ha⟩ := ha
    split at ha
    · rename_i Ry Wy Rx Wx hby hbx
      simp only [Bool.and_eq_true] at ha
      obtain ⟨a1, a2, a3⟩ := ha
      have a1 := disj_spec a1
      have a2 := disj_spec a2
      have a3 := disj_spec a3
      obtain ⟨uy, qy, wy, ky, rfl, ly⟩ := gstep_foot hP oy hby h1
      obtain ⟨ux, qx, wx, kx, rfl, lx⟩ := gstep_foot hP ox hbx h2
      have gy : ∀ t : St, ∀ n ∈ x.rd, (t.putH uy qy).get n = t.get n := fun t n hn => get_upd (s := t) (l := uy) (fun p hp e => d1 p.1 (wy p hp) (e ▸ hn))
      have gx : ∀ t : St, ∀ n ∈ y.rd, (t.putH ux qx).get n = t.get n := fun t n hn => get_upd (s := t) (l := ux) (fun p hp e => d2 p.1 (wx p hp) (e ▸ hn))
      have hx := lx s (fun n hn => (gy s n hn).symm) (updH_length qy s.hp).symm (fun i hi => (updH_get (fun p hp e => by
        subst e
        rcases hi with hi | hi
        · exact a1 _ (ky p hp) hi
        · exact a2 _ (ky p hp) hi)).symm)
      have hy := ly (s.putH ux qx) (fun n hn => gx s n hn) (updH_length qx s.hp) (fun i hi => updH_get (fun p hp e => by
        subst e
        rcases hi with hi | hi
        · exact a3 _ (kx p hp) hi
        · exact a2 _ hi (kx p hp)))
      refine ⟨_, hx, hy.trans ?_⟩
      congr 1
      have e1 := foldl_foldl_comm uy ux s.env (fun p hp q hq e => d3 q.1 (wy q hq) (e ▸ wx p hp))
      have e2 := foldl_foldl_comm qy qx s.hp (fun p hp q hq e => a2 q.1 (ky q hq) (e ▸ kx p hp))
      simp only [St.putH, St.upd, St.mk.injEq]
      exact ⟨e1, e2⟩
    · simp at ha
  have c1 : y.o.cls imp ≤ 1 ∨ x.o.cls imp = 0 := c1.imp id Nat.eq_of_beq_eq_true
  have c2 : x.o.cls imp ≤ 1 ∨ y.o.cls imp = 0 := c2.imp id Nat.eq_of_beq_eq_true
  obtain ⟨uy, qy, wy, ky, rfl, ly⟩ := gstep_effect hP h1
  obtain ⟨ux, qx, wx, kx, rfl, lx⟩ := gstep_effect hP h2
  have gy : ∀ t : St, ∀ n ∈ x.rd, (t.put uy qy).get n = t.get n := fun t n hn => get_upd (s := t) (l := uy) (fun p hp e => d1 p.1 (wy p hp) (e ▸ hn))
  have gx : ∀ t : St, ∀ n ∈ y.rd, (t.put ux qx).get n = t.get n := fun t n hn => get_upd (s := t) (l := ux) (fun p hp e => d2 p.1 (wx p hp) (e ▸ hn))
  have hx := lx s (fun n hn => (gy s n hn).symm) (fun hc => by
    rcases c1 with c1 | c1
    · rw [ky c1]; rfl
    · omega)
  have hy := ly (s.put ux qx) (fun n hn => gx s n hn) (fun hc => by
    rcases c2 with c2 | c2
    · rw [kx c2]; rfl
    · omega)
  refine ⟨_, hx, hy.trans ?_⟩
  congr 1
  have e1 := foldl_foldl_comm uy ux s.env (fun p hp q hq e => d3 q.1 (wy q hq) (e ▸ wx p hp))
  simp only [St.put, St.upd, St.mk.injEq]
  refine ⟨e1, ?_⟩
  rcases c1 with c1 | c1
  · rw [ky c1]; rfl
  · rw [kx (by omega)]; rfl

theorem bring (hP : PureS Γ imp) {R : Type} {K : St → Option R} {r : R} {x : GOp} {B : List GOp} : ∀ (A : List GOp) (s : St), (∀ y ∈ A, indep imp y x = true) →
    runOps Γ (A ++ x :: B) K s = some r → ∃ s', gstep Γ x s = some s' ∧ runOps Γ (A ++ B) K s' = some r
  | [], s, _, h => by
    rw [List.nil_append, runOps_gstep] at h
    exact Option.bind_eq_some_iff.1 h
  | y :: A, s, hA, h => by
    rw [List.cons_append, runOps_gstep] at h
    obtain ⟨s1, h1, h2⟩ := Option.bind_eq_some_iff.1 h
    obtain ⟨s2, h3, h4⟩ := bring hP A s1 (fun y hy => hA y (List.mem_cons_of_mem _ hy)) h2
    obtain ⟨s1', h5, h6⟩ := swap hP (hA y (List.mem_cons_self ..)) h1 h3
    refine ⟨s1', h5, ?_⟩
    rw [List.cons_append, runOps_gstep, h6]
    exact h4
end

/-- a table of functions that have nothing to do with objects -/
def liftG (G : Nat → List V → Option (Bool × V)) : ASpec := fun f vs hp => match G f vs with | some x => some (x.1, x.2, hp) | none => none

theorem liftG_pure (G : Nat → List V → Option (Bool × V)) (imp : List Nat) : PureS (liftG G) imp := by
  refine ⟨?_, ?_⟩
  · intro f as hp _
    unfold liftG
    cases G f as <;> rfl
  · intro f vs hp c v hp' _ h
    unfold liftG at h ⊢
    cases hg : G f vs with
    | none => rw [hg] at h; simp at h
    | some x =>
      rw [hg] at h
      simp only [Option.some.injEq, Prod.mk.injEq] at h
      obtain ⟨rfl, rfl, rfl⟩ := h
      exact ⟨[], by simp, rfl, fun hp2 _ _ => rfl⟩

theorem liftG_inv {G : Nat → List V → Option (Bool × V)} {f : Nat} {vs : List V} {hp hp' : List AObj} {c : Bool} {v : V} (h : liftG G f vs hp = some (c, v, hp')) : G f vs = some (c, v) ∧ hp' = hp := by
  unfold liftG at h
  cases hg : G f vs with
  | none => rw [hg] at h; simp at h
  | some x =>
    rw [hg] at h
    simp only [Option.some.injEq, Prod.mk.injEq] at h
    obtain ⟨rfl, rfl, rfl⟩ := h
    exact ⟨rfl, rfl⟩
end Go.AM
