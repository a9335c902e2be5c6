/-
  strings.Builder, as the machine has it: a new builder is found to be its own; the text of a builder that has a row of bytes.
-/
import Derived.Test.YtehknfijojlddaaGreatDmY
import Derived.Test.YtehknfijojlddaaGreatChecked
import Derived.WalkKit
import Derived.WalkSpells
import Derived.Laws.Externs
import Derived.Lib.Builder
import Derived.Lib.UnsafeStr
import Derived.KernelRfl
namespace Go.Proofs.YtehknfijojlddaaGreat
open Go.RowKit
set_option autoImplicit false
set_option linter.unusedVariables false

theorem run_extern_ne (x : Value) (w : World) : (callFunc 142 #[x]).run Tryz.prog w = .ok (.value x) w := by
  rw [run_callFunc_extern Tryz.func142 (by kernel_rfl) (by kernel_rfl) (by kernel_rfl) (e := Extern.AbiNoEscape.same) (by kernel_rfl)]
  rw [Lib.run_noEscape]
  rfl

set_option maxHeartbeats 1000000 in
set_option maxRecDepth 100000 in
theorem cc_fresh (b o E n : Nat) (w : World) (h0 : w.cell? ⟨b, o, none⟩ = some (.pointer none)) (hsh : w.shape? b = some (E, n)) (ho : o < n)
    (hl : liesAt Tryz.prog Tryz.prog.depth E (n / Tryz.prog.cellsOf E) o 189 1 = true) (hfz : w.frozen? ⟨b, o, none⟩ = false) :
    Calls Tryz.prog 118 #[.pointer (some ⟨b, o, none⟩)] w fun e w' => e = .returned (.tuple #[]) ∧ w' = w.setCell ⟨b, o, none⟩ (.pointer (some ⟨b, o, none⟩)) := by
  obtain ⟨j, hj, hjs⟩ : ∃ j, Tryz.prog.info? 189 = some j ∧ j.size = 2 := Option.map_eq_some_iff.1 (show (Tryz.prog.info? 189).map (·.size) = some 2 by kernel_rfl)
  go_enter Tryz.func118, Tryz.ntmps118
  go_wp2
  rw [Lib.run_to_unsafe w ⟨b, o, none⟩ Tryz.underlying186 Tryz.underlying253 hj (by rw [hjs]; decide) hsh ho]
  simp only [Result.andThen]
  rw [Oper.upon_value]
  go_wp2
  rw [run_extern_ne]
  rw [Oper.upon_value]
  go_wp2
  rw [Lib.run_from_unsafe w ⟨b, o, none⟩ Tryz.underlying253 Tryz.underlying186 hj hsh hl]
  simp only [Result.andThen]
  rw [Oper.upon_value]
  go_wp2
  go_end0
  exact ⟨rfl, rfl⟩
theorem liesAt_at {P : Program} {e : TypeId} (hc : P.cellsOf e = 1) (count off n : Nat) (hn : off + n ≤ count) : liesAt P P.depth e count off e n = true := by
  have hd : P.depth = (2 * (P.types.size + Made.depth) + 1) + 1 := rfl
  rw [hd]
  simp only [liesAt, Bool.or_eq_true]
  left
  rw [hd]
  simp [rowAt, hc, hn, sameLayout, Nat.mod_one]

theorem run_unsafeString_at {P : Program} (w : World) (pt it ty e : TypeId) (hp : P.underlying pt = some (.pointer e)) (hc : P.cellsOf e = 1) (g off cells : Nat) (hsh : w.shape? g = some (e, cells)) (l : List UInt8) (h0 : l ≠ []) (hn : off + l.length ≤ cells) (h63 : l.length ≤ 9223372036854775807)
    (hcell : ∀ j x, l[j]? = some x → w.cell? ((⟨g, off, none⟩ : Addr).add j) = some (.int .u8 x.toNat)) :
    (Builtin.unsafeString_ #[pt, it] ty #[.pointer (some ⟨g, off, none⟩), .int .i64 l.length]).run P w = .ok (.string ⟨l.toArray⟩) (w.freeze ⟨g, off, none⟩ l.length) := by
  have hl : l.length ≠ 0 := by simpa using h0
  have hlb := Lib.run_loadBytes (P := P) w l ⟨g, off, none⟩ .empty hcell
  have hlies := liesAt_at (P := P) hc (cells / P.cellsOf e) off l.length (by rw [hc]; simpa using hn)
  have h63' : ¬ (9223372036854775807 : Int) < (l.length : Int) := by omega
  have hmax : IntKind.i64.max = 9223372036854775807 := rfl
  have hneg : ¬ (l.length : Int) < 0 := by omega
  show (asInt (.int .i64 l.length) >>= _ : Sem Value).run P w = _
  simp [asInt, asIntOf, hmax, h63', hneg, hl, variablesAt, hsh, elemOf, run_underlying hp, hlies, hlb]

set_option maxHeartbeats 2000000 in
set_option maxRecDepth 100000 in
theorem st_walk (b o n : Nat) (v p : Value) (s : ByteArray) (w w' : World) (h1 : w.drew.cell? ⟨b, o + 1, none⟩ = some v) (h1' : w'.cell? ⟨b, o + 1, none⟩ = some v) (hv : ∃ ad cap, v = .slice ad n cap)
    (hSD : (Builtin.unsafeSliceData_ #[187] 233 #[v]).run Tryz.prog w.drew = .ok p w')
    (w'' : World) (hUS : (Builtin.unsafeString_ #[233, 3] 9 #[p, .int .i64 n]).run Tryz.prog w' = .ok (.string s) w'') :
    Calls Tryz.prog 78 #[.pointer (some ⟨b, o, none⟩)] w fun e x => e = .returned (.string s) ∧ x = w'' := by
  obtain ⟨ad, cap, rfl⟩ := hv
  go_enter Tryz.func78, Tryz.ntmps78
  go_wp2
  go_region
  all_goals (go_wp2; go_ret; exact ⟨rfl, rfl⟩)

theorem byteElem : Tryz.prog.underlying 233 = some (.pointer 5) := by kernel_rfl
theorem byteCells1 : Tryz.prog.cellsOf 5 = 1 := by kernel_rfl
theorem freeze_heap (w : World) (a : Addr) (n : Nat) (b : Nat) (h : b ≠ a.block) : (w.freeze a n).heap[b]? = w.heap[b]? := by
  unfold World.freeze
  split
  · rfl
  · rw [Array.getElem?_modify, if_neg (fun e => h e.symm)]

theorem freeze_size (w : World) (a : Addr) (n : Nat) : (w.freeze a n).heap.size = w.heap.size := by
  unfold World.freeze
  split <;> simp

theorem freeze_rest (w : World) (a : Addr) (n : Nat) : (w.freeze a n).os = w.os ∧ (w.freeze a n).tape = w.tape ∧ (w.freeze a n).output = w.output := by
  unfold World.freeze
  split <;> simp


theorem lies0 (o E n : Nat) (h1 : o = 0) (h2 : E = 189) (h3 : n = 2) : liesAt Tryz.prog Tryz.prog.depth E (n / Tryz.prog.cellsOf E) o 189 1 = true := by
  subst h1 h2 h3
  kernel_rfl
end Go.Proofs.YtehknfijojlddaaGreat

namespace Go.DM
open Go.RowKit Go.Proofs
set_option autoImplicit false
set_option linter.unusedSimpArgs false
set_option linter.unusedVariables false

theorem set_upd (t : Tr Obj) (i : Nat) (v : Option Obj) : (t.set (Nat.succ i) i v).get = upd t.get i v := by
  funext j
  exact Tr.get_set _ _ _ _ _ (Nat.lt_succ_self _)

noncomputable def xcc (args : List D) (hp : Hp) : Res := match args with
  | [.ptr id 0] => match getR hp.t id with
    | some (.cells e true [.nilp, c]) => cond (Nat.beq e 189) (setR hp.t id (some (.cells e true [.ptr id 0, c])) fun t => some (.tup [], ⟨hp.n, t⟩)) none
    | _ => none
  | _ => none
theorem xcc_ok {G : List Nat} {args : List D} {hp hp' : Hp} {v : D} (h : xcc args hp = some (v, hp')) : FnOK Tryz.prog G 118 args hp v hp' := by
  unfold xcc at h
  split at h
  · rename_i id
    rw [getR_eq] at h
    split at h
    · rename_i e c hcs
      cases he : Nat.beq e 189 with
      | false => rw [he] at h; simp at h
      | true =>
        rw [he, cond_true, setR_eq] at h
        simp only [Option.some.injEq, Prod.mk.injEq] at h
        obtain ⟨rfl, rfl⟩ := h
        obtain rfl := Nat.eq_of_beq_eq_true he
        intro w g cargs hr hgl hl hrel
        match cargs, hl, hrel with
        | ⟨[c0]⟩, _, hrel =>
          have r0 := hrel 0 _ c0 rfl rfl
          cases r0 with
          | ptr _ _ hA =>
          obtain ⟨arr, fz, b1, b2⟩ := hr.obj id _ _ _ hcs
          have hsz : arr.size = 2 := (b2.whole rfl).symm
          have hcell : w.cell? ⟨g.ρ id, 0, none⟩ = some (.pointer none) := by
            have h0 : arr[0]? = some arr[0] := Array.getElem?_eq_getElem (by omega)
            have r := b2.rel 0 .nilp _ rfl h0
            rw [cell_of_heap b1 0, h0]
            generalize arr[0] = z at r
            cases r
            rfl
          have hshape : w.shape? (g.ρ id) = some (189, 2) := by simp [World.shape?, b1, hsz]
          have hcold := b2.cold 0 (by simp; omega)
          have hfz : w.frozen? ⟨g.ρ id, 0, none⟩ = false := by
            simp only [World.frozen?, b1]
            simpa using hcold
          refine (Go.Proofs.YtehknfijojlddaaGreat.cc_fresh (g.ρ id) 0 189 2 w hcell hshape (by omega) (Go.Proofs.YtehknfijojlddaaGreat.lies0 0 _ 2 rfl rfl rfl) hfz).mono ?_
          rintro e' w' ⟨rfl, rfl⟩
          obtain ⟨_, q3, q4, q5, q6, q7⟩ := setCells_heap (g.ρ id) [.pointer (some ⟨g.ρ id, 0, none⟩)] 0 w arr _ fz b1
          obtain ⟨arr', k1, k2, k3⟩ := setCells_row b1 0 [.pointer (some ⟨g.ρ id, 0, none⟩)] (by simp; omega)
          have sg0 : SG g ⟨0, []⟩ ⟨fun _ => .undef, hp.t.get, hp.n⟩ w { tmps := #[], defers := [] } := ⟨hr, ⟨rfl, fun n hn => absurd hn (Nat.not_lt_zero _)⟩, by simp⟩
          obtain ⟨m1, m2⟩ := sg0.turn (F := fun id => hp.n ≤ id) hcs (.cells 189 true [.ptr id 0, c]) q4 q3 k1 q5 q6 q7 ⟨arr', fz, rfl, by simp; omega, fun _ => by simp; omega, by simp, by
            have := b2.cold; rw [k2]; exact this, by
            intro x hx
            have := b2.one
            simp only [List.mem_cons, List.not_mem_nil, or_false] at hx this
            rcases hx with rfl | rfl
            · rfl
            · exact this _ (.inr rfl), by
            intro j x cv hx hcv
            rw [k3] at hcv
            match j, hx, hcv with
            | 0, hx, hcv =>
              simp at hx hcv
              subst hx hcv
              exact .ptr _ _ (hr.made _ _ hcs)
            | 1, hx, hcv =>
              simp at hx hcv
              exact b2.rel 1 x cv (by simpa using hx) hcv
            | j + 2, hx, hcv => simp at hx⟩
          refine ⟨_, g, rfl, ?_, ?_, .tup [] #[] rfl (by simp), Nat.le_refl _⟩
          · rw [set_upd]; exact m1.hr
          · rw [set_upd]; exact m2
        | ⟨[]⟩, hl, _ => simp at hl
        | ⟨_ :: _ :: _⟩, hl, _ => simp at hl
    · simp at h
  · simp at h

theorem bytesN_get : ∀ {cs : List D} {l : List Nat}, bytesN cs = some l → l.length = cs.length ∧ ∀ (j m : Nat), l[j]? = some m → cs[j]? = some (.int .u8 (.ofNat m))
  | [], l, h => by
    simp only [bytesN, Option.some.injEq] at h
    subst h
    exact ⟨rfl, by simp⟩
  | c :: cs, l, h => by
    simp only [bytesN] at h
    split at h
    · rename_i n l' h1 h2
      obtain rfl := Option.some.inj h
      obtain ⟨k1, k2⟩ := bytesN_get h2
      refine ⟨by simp [k1], fun j m hj => ?_⟩
      match j, hj with
      | 0, hj =>
        simp at hj
        subst hj
        unfold byteN at h1
        split at h1
        · obtain rfl := Option.some.inj h1; rfl
        · simp at h1
      | j + 1, hj => simpa using k2 j m (by simpa using hj)
    · simp at h

noncomputable def xst (args : List D) (hp : Hp) : Res := match args with
  | [.ptr id 0] => match getR hp.t id with
    | some (.cells e true [c0, .sl b 0 n 1 none]) => match getR hp.t b with
      | some (.cells e2 false cs) => cond (Nat.beq e2 5 && Nat.beq (lenL cs 0) n && Nat.ble 1 n && Nat.ble n 1000000) (match bytesN cs with
        | some l => forceS l fun l => setR hp.t b none fun t => some (.str l, ⟨hp.n, t⟩)
        | none => none) none
      | _ => none
    | _ => none
  | _ => none
theorem xst_ok {G : List Nat} {args : List D} {hp hp' : Hp} {v : D} (h : xst args hp = some (v, hp')) : FnOK Tryz.prog G 78 args hp v hp' := by
  unfold xst at h
  split at h
  · rename_i id
    rw [getR_eq] at h
    split at h
    · rename_i e c0 b n hcs
      rw [getR_eq] at h
      split at h
      · rename_i e2 cs hcb
        cases hc : (Nat.beq e2 5 && Nat.beq (lenL cs 0) n && Nat.ble 1 n && Nat.ble n 1000000) with
        | false => rw [hc] at h; simp at h
        | true =>
          rw [hc, cond_true] at h
          split at h
          · rename_i l hl
            rw [forceS_eq, setR_eq] at h
            simp only [Option.some.injEq, Prod.mk.injEq] at h
            obtain ⟨rfl, rfl⟩ := h
            simp only [Bool.and_eq_true, Nat.ble_eq, lenL_eq, Nat.zero_add] at hc
            obtain ⟨⟨⟨hE, hN⟩, h1⟩, h2⟩ := hc
            obtain rfl := Nat.eq_of_beq_eq_true hE
            obtain rfl := Nat.eq_of_beq_eq_true hN
            obtain ⟨gl, gj⟩ := bytesN_get hl
            intro w g cargs hr hgl hlen hrel
            match cargs, hlen, hrel with
            | ⟨[cv]⟩, _, hrel =>
              have r0 := hrel 0 _ cv rfl rfl
              cases r0 with
              | ptr _ _ hA =>
              obtain ⟨arr, fz, b1, b2⟩ := hr.obj id _ _ _ hcs
              obtain ⟨arr2, fz2, d1, d2⟩ := hr.obj b _ _ _ hcb
              have hsz : arr.size = 2 := (b2.whole rfl).symm
              have h1' : arr[1]? = some arr[1] := Array.getElem?_eq_getElem (by omega)
              have rv := b2.rel 1 _ _ rfl h1'
              have hcell : w.cell? ⟨g.ρ id, 0 + 1, none⟩ = some arr[1] := by rw [cell_of_heap b1]; exact h1'
              generalize arr[1] = sv at rv hcell
              cases rv with
              | sl _ _ _ _ _ cap hAb hz hcap hm hk =>
              have hal := d2.len
              have hshape : w.drew.shape? (g.ρ b) = some (5, arr2.size) := by
                have : w.drew.heap[g.ρ b]? = some (.cells arr2 5 fz2) := d1
                simp [World.shape?, this]
              have hLl : (l.map UInt8.ofNat).length = cs.length := by rw [List.length_map, gl]
              have hcells : ∀ (j : Nat) x, (l.map UInt8.ofNat)[j]? = some x → w.drew.cell? ((⟨g.ρ b, 0, none⟩ : Addr).add j) = some (.int .u8 x.toNat) := by
                intro j x hj
                rw [List.getElem?_map, Option.map_eq_some_iff] at hj
                obtain ⟨m, hm', rfl⟩ := hj
                have hcj := gj j m hm'
                have hjl : j < cs.length := (List.getElem?_eq_some_iff.1 hcj).1
                have hja : arr2[j]? = some (arr2[j]'(by omega)) := Array.getElem?_eq_getElem (by omega)
                have r := d2.rel j _ _ hcj hja
                have e3 : w.drew.cell? ((⟨g.ρ b, 0, none⟩ : Addr).add j) = arr2[j]? := by
                  rw [Addr.add_lit, Nat.zero_add]
                  exact cell_of_heap (w := w.drew) d1 j
                rw [e3, hja]
                generalize arr2[j]'(by omega) = z at r
                cases r with
                | int _ _ hr8 =>
                have hm8 : m < 256 := by
                  have h1 : (Int.ofNat m : Int) ≤ 255 := hr8.2
                  have h2 : (Int.ofNat m : Int) = (m : Int) := rfl
                  omega
                rw [UInt8.toNat_ofNat', Nat.mod_eq_of_lt hm8]
                rfl
              have hne : l.map UInt8.ofNat ≠ [] := fun e => by rw [e] at hLl; simp at hLl; omega
              have hUS := Go.Proofs.YtehknfijojlddaaGreat.run_unsafeString_at (P := Tryz.prog) w.drew 233 3 9 5 Go.Proofs.YtehknfijojlddaaGreat.byteElem Go.Proofs.YtehknfijojlddaaGreat.byteCells1 (g.ρ b) 0 arr2.size hshape (l.map UInt8.ofNat) hne (by omega) (by omega) hcells
              rw [hLl] at hUS
              refine (Go.Proofs.YtehknfijojlddaaGreat.st_walk (g.ρ id) 0 cs.length _ (.pointer (some ⟨g.ρ b, 0, none⟩)) ⟨(l.map UInt8.ofNat).toArray⟩ w w.drew hcell hcell ⟨_, _, rfl⟩ (Lib.run_unsafeSliceData_row _ _ _ _ _ _ (by omega)) _ hUS).mono ?_
              rintro e' w' ⟨rfl, rfl⟩
              have hl8 : ∀ m ∈ l, m < 256 := by
                intro m hm'
                obtain ⟨j, hj⟩ := List.mem_iff_getElem?.1 hm'
                have hcj := gj j m hj
                have hjl : j < cs.length := (List.getElem?_eq_some_iff.1 hcj).1
                have hja : arr2[j]? = some (arr2[j]'(by omega)) := Array.getElem?_eq_getElem (by omega)
                have r := d2.rel j _ _ hcj hja
                generalize arr2[j]'(by omega) = z at r
                cases r with
                | int _ _ hr8 =>
                have h1 : (Int.ofNat m : Int) ≤ 255 := hr8.2
                have h2 : (Int.ofNat m : Int) = (m : Int) := rfl
                omega
              have hmap : ∀ (l : List Nat), (∀ m ∈ l, m < 256) → (l.map UInt8.ofNat).map (·.toNat) = l := by
                intro l
                induction l with
                | nil => intro _; rfl
                | cons a l ih =>
                  intro h
                  rw [List.map_cons, List.map_cons, ih fun m hm => h m (by simp [hm]), UInt8.toNat_ofNat', Nat.mod_eq_of_lt (h a (by simp))]
              have fr := Go.Proofs.YtehknfijojlddaaGreat.freeze_rest w.drew ⟨g.ρ b, 0, none⟩ cs.length
              have fh : ∀ k, k ≠ g.ρ b → (w.drew.freeze ⟨g.ρ b, 0, none⟩ cs.length).heap[k]? = w.heap[k]? := fun k hk => (Go.Proofs.YtehknfijojlddaaGreat.freeze_heap _ _ _ _ hk).trans rfl
              have fs : (w.drew.freeze ⟨g.ρ b, 0, none⟩ cs.length).heap.size = w.heap.size := (Go.Proofs.YtehknfijojlddaaGreat.freeze_size _ _ _).trans rfl
              have dom : ∀ i o, upd hp.t.get b none i = some o → hp.t.get i = some o ∧ g.ρ i ≠ g.ρ b := by
                intro i o hi
                simp only [upd] at hi
                split at hi
                · simp at hi
                · rename_i hib
                  exact ⟨hi, hr.apart i b _ _ hi hcb hib⟩
              refine ⟨_, g, rfl, ?_, ?_, .str _ _ (by simpa using hmap l hl8) ?_, Nat.le_refl _⟩
              · rw [set_upd]
                refine ⟨fun i e f cs' hi => ?_, fun i es hi => ?_, fun i j o o' hi hj hij => hr.apart i j o o' (dom i o hi).1 (dom j o' hj).1 hij, fun i o hi => hr.made i o (dom i o hi).1, hr.lt⟩
                · obtain ⟨p1, p2⟩ := dom i _ hi
                  obtain ⟨a', z', s1, s2⟩ := hr.obj i e f cs' p1
                  exact ⟨a', z', (fh _ p2).trans s1, s2⟩
                · obtain ⟨p1, p2⟩ := dom i _ hi
                  obtain ⟨a', z', s1, s2⟩ := hr.map i es p1
                  exact ⟨a', z', (fh _ p2).trans s1, s2⟩
              · rw [set_upd]
                refine ⟨fr.1, fr.2.1, fr.2.2, by rw [fs]; exact Nat.le_refl _, fun k hk ho => fh k fun e => ho b _ hcb e.symm, Up.refl g, fun i hi => .inl hi, fun i o hi => .inr ⟨i, o, (dom i o hi).1, rfl⟩⟩
              · show (List.toArray (l.map UInt8.ofNat)).size ≤ maxI
                rw [List.size_toArray, hLl]
                show cs.length ≤ 9223372036854775807
                omega
            | ⟨[]⟩, hlen, _ => simp at hlen
            | ⟨_ :: _ :: _⟩, hlen, _ => simp at hlen
          · simp at h
      · simp at h
    · simp at h
  · simp at h

/-- the two of them -/
noncomputable def yB : Sp → Sp := fun _ f args hp => Bool.rec (motive := fun _ => Res) (Bool.rec (motive := fun _ => Res) none (xst args hp) (Nat.beq f 78)) (xcc args hp) (Nat.beq f 118)
theorem yB_ok {G : List Nat} : ∀ Γ, SpecOK Tryz.prog G Γ → SpecOK Tryz.prog G (yB Γ) := by
  intro Γ hΓ f vs hp v hp' h
  simp only [yB, brec_eq] at h
  cases hft : Nat.beq f 118 with
  | true =>
    rw [hft, cond_true] at h
    obtain rfl := Nat.eq_of_beq_eq_true hft
    exact ⟨by kernel_rfl, xcc_ok h⟩
  | false =>
    rw [hft, cond_false] at h
    cases hfi : Nat.beq f 78 with
    | false => rw [hfi] at h; simp at h
    | true =>
      rw [hfi] at h
      obtain rfl := Nat.eq_of_beq_eq_true hfi
      exact ⟨by kernel_rfl, xst_ok h⟩
end Go.DM
