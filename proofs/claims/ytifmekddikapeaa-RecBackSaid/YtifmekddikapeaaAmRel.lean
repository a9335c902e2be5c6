/-
  How the abstract machine's values, objects and slots stand to a world: the relation, and what keeps it.
-/
import Derived.Test.YtifmekddikapeaaAmV
import Derived.WalkKit
import Derived.Deep.AppendSrc
namespace Go.AM
set_option autoImplicit false

structure Gh where
  I : Nat → Nat → Prop
  ρ : Nat → Nat
  O : Nat → Option Occ
  β : Nat

/-- a value that owns a row: only where there is none -/
def OwnNil (c : V) (cv : Value) : Prop :=
  match c, cv with
  | .sl _ .own _, .slice (some _) _ _ => False
  | .bn _ _, _ => False
  | .raw _, _ => False
  | .ul _ xs, cv => xs.length = 0 ∧ cv = .slice none 0 0
  | _, _ => True

inductive VRel (I : Nat → Nat → Prop) (ρ : Nat → Nat) (N : Nat) (w : World) : V → Value → Prop where
  | undef (cv : Value) : VRel I ρ N w .undef cv
  | bool (b : Bool) : VRel I ρ N w (.bool b) (.bool b)
  | int (k : IntKind) (n : Int) (h : k.min ≤ n ∧ n ≤ k.max) : VRel I ρ N w (.int k n) (.int k n)
  | str (l : List UInt8) (s : ByteArray) (hl : s.data.toList = l) (h : s.size ≤ maxI) : VRel I ρ N w (.str l) (.string s)
  | sln (k : EK) (o : Fl) : VRel I ρ N w (.sl k o []) (.slice none 0 0)
  | sle (k : EK) (o : Fl) (ad : Addr) (ho : o ≠ .own) : VRel I ρ N w (.sl k o []) (.slice (some ad) 0 0)
  | sl (k : EK) (o : Fl) (xs : List (Ty k)) (b off len cap : Nat) (hl : xs.length = len) (hc : xs.length ≤ cap) (hm : cap ≤ maxI) (hf : o = .may true → len = cap) (f : Nat → Nat → Value)
      (hI : ∀ i x j, xs[i]? = some x → j < (enc k x).length → I b (off + i * k.sz + j))
      (hw : ∀ i x j, xs[i]? = some x → j < (enc k x).length → w.cell? ⟨b, off + i * k.sz + j, none⟩ = some (f i j))
      (hv : ∀ i x j v, xs[i]? = some x → (enc k x)[j]? = some v → VRel I ρ N w v (f i j)) :
      VRel I ρ N w (.sl k o xs) (.slice (some ⟨b, off, none⟩) len cap)
  | agg (cs : List V) (vs : Array Value) (hl : cs.length = vs.size) (h1 : ∀ c ∈ cs, c.one = true) (hb : ∀ (i : Nat) c cv, cs[i]? = some c → vs[i]? = some cv → OwnNil c cv)
      (hv : ∀ (i : Nat) c cv, cs[i]? = some c → vs[i]? = some cv → VRel I ρ N w c cv) : VRel I ρ N w (.agg cs) (.agg vs)
  | tup (cs : List V) (vs : Array Value) (hl : cs.length = vs.size)
      (hv : ∀ (i : Nat) c cv, cs[i]? = some c → vs[i]? = some cv → VRel I ρ N w c cv) : VRel I ρ N w (.tup cs) (.tuple vs)
  | ea (cs : List V) (b off : Nat) (f : Nat → Value) (h1 : ∀ c ∈ cs, c.one = true)
      (hI : ∀ j, j < cs.length → I b (off + j))
      (hw : ∀ j, j < cs.length → w.cell? ⟨b, off + j, none⟩ = some (f j))
      (hv : ∀ (j : Nat) c, cs[j]? = some c → VRel I ρ N w c (f j)) : VRel I ρ N w (.ea cs) (.pointer (some ⟨b, off, none⟩))
  | ptr (id off : Nat) (h : id < N) : VRel I ρ N w (.ptr id off) (.pointer (some ⟨ρ id, off, none⟩))
  | nilp : VRel I ρ N w .nilp (.pointer none)
  | fn (f : Nat) (cs : List V) (vs : Array Value) (hl : cs.length = vs.size)
      (hv : ∀ (i : Nat) c cv, cs[i]? = some c → vs[i]? = some cv → VRel I ρ N w c cv) : VRel I ρ N w (.fn f cs) (.func (.func f) #[] vs)
  | nilif : VRel I ρ N w .nilif .nilIface
  | bn (E n : Nat) (p : Option Addr) : VRel I ρ N w (.bn E n) (.pointer p)
  | junk (cv : Value) (h : cv.oneCell' = true) : VRel I ρ N w .junk cv
  | so (id n cap : Nat) (h : id < N) (hc : n ≤ cap) (hm : cap ≤ maxI) : VRel I ρ N w (.so id n) (.slice (some ⟨ρ id, 0, none⟩) n cap)
  | raw (n b : Nat) : VRel I ρ N w (.raw n) (.pointer (some ⟨b, 0, none⟩))
  | ul (k : EK) (xs : List (Ty k)) (ad : Option Addr) (cap : Nat) (hm : xs.length ≤ maxI) : VRel I ρ N w (.ul k xs) (.slice ad xs.length cap)
  | hd (n : Nat) (ad : Option Addr) (cap : Nat) (hm : n ≤ maxI) : VRel I ρ N w (.hd n) (.slice ad n cap)
  | sw (k : EK) (id n : Nat) (h : id + 1 < N) (hc : n ≤ ρ (id + 1)) (hm : ρ (id + 1) ≤ maxI) : VRel I ρ N w (.sw k id n) (.slice (some ⟨ρ id, 0, none⟩) n (ρ (id + 1)))
  | wp (id : Nat) (k : EK) (i o : Nat) (h : id + 1 < N) : VRel I ρ N w (.wp id k i o) (.pointer (some ⟨ρ id, i * k.sz + o, none⟩))

/-- one moment later: more is laid for good, what was laid reads as it did, the objects lie where they lay -/
structure Up (I : Nat → Nat → Prop) (ρ : Nat → Nat) (N : Nat) (w : World) (I' : Nat → Nat → Prop) (ρ' : Nat → Nat) (N' : Nat) (w' : World) : Prop where
  mono : ∀ b j, I b j → I' b j
  cell : ∀ b j, I b j → w'.cell? ⟨b, j, none⟩ = w.cell? ⟨b, j, none⟩
  rho : ∀ id, id < N → ρ' id = ρ id
  num : N ≤ N'

theorem Up.refl (I : Nat → Nat → Prop) (ρ : Nat → Nat) (N : Nat) (w : World) : Up I ρ N w I ρ N w := ⟨fun _ _ h => h, fun _ _ _ => rfl, fun _ _ => rfl, Nat.le_refl _⟩

theorem Up.trans {I I' I'' : Nat → Nat → Prop} {ρ ρ' ρ'' : Nat → Nat} {N N' N'' : Nat} {w w' w'' : World} (h : Up I ρ N w I' ρ' N' w') (k : Up I' ρ' N' w' I'' ρ'' N'' w'') :
    Up I ρ N w I'' ρ'' N'' w'' :=
  ⟨fun b j hi => k.mono b j (h.mono b j hi), fun b j hi => (k.cell b j (h.mono b j hi)).trans (h.cell b j hi),
   fun id hid => (k.rho id (Nat.lt_of_lt_of_le hid h.num)).trans (h.rho id hid), Nat.le_trans h.num k.num⟩

theorem VRel.up {I I' : Nat → Nat → Prop} {ρ ρ' : Nat → Nat} {N N' : Nat} {w w' : World} (u : Up I ρ N w I' ρ' N' w') {v : V} {cv : Value} (h : VRel I ρ N w v cv) :
    VRel I' ρ' N' w' v cv := by
  induction h with
  | undef cv => exact .undef cv
  | bool b => exact .bool b
  | int k n h => exact .int k n h
  | str l s hl h => exact .str l s hl h
  | sln k o => exact .sln k o
  | sle k o ad ho => exact .sle k o ad ho
  | sl k o xs b off len cap hl hc hm hf f hI hw hv ih =>
    exact .sl k o xs b off len cap hl hc hm hf f (fun i x j h1 h2 => u.mono _ _ (hI i x j h1 h2)) (fun i x j h1 h2 => (u.cell _ _ (hI i x j h1 h2)).trans (hw i x j h1 h2)) ih
  | agg cs vs hl h1 hb hv ih => exact .agg cs vs hl h1 hb ih
  | tup cs vs hl hv ih => exact .tup cs vs hl ih
  | ea cs b off f h1 hI hw hv ih => exact .ea cs b off f h1 (fun j h => u.mono _ _ (hI j h)) (fun j h => (u.cell _ _ (hI j h)).trans (hw j h)) ih
  | ptr id off h => rw [← u.rho id h]; exact .ptr id off (Nat.lt_of_lt_of_le h u.num)
  | nilp => exact .nilp
  | fn f cs vs hl hv ih => exact .fn f cs vs hl ih
  | nilif => exact .nilif
  | bn E n p => exact .bn E n p
  | junk cv h => exact .junk cv h
  | so id n cap h hc hm => rw [← u.rho id h]; exact .so id n cap (Nat.lt_of_lt_of_le h u.num) hc hm
  | raw n b => exact .raw n b
  | ul k xs ad cap hm => exact .ul k xs ad cap hm
  | hd n ad cap hm => exact .hd n ad cap hm
  | sw k id n h hc hm =>
    have e := u.rho (id + 1) h
    have h' : id + 1 < N' := Nat.lt_of_lt_of_le h u.num
    rw [← u.rho id (by omega), ← e]
    exact .sw k id n h' (by rw [e]; exact hc) (by rw [e]; exact hm)
  | wp id k i o h => rw [← u.rho id (by omega)]; exact .wp id k i o (Nat.lt_of_lt_of_le h u.num)

section
variable {I : Nat → Nat → Prop} {ρ : Nat → Nat} {N : Nat} {w : World}

theorem VRel.own {k : EK} {o o' : Fl} {xs : List (Ty k)} {cv : Value} (h : VRel I ρ N w (.sl k o xs) cv) (ho : o' = .may true → o = .may true) (hn : o' ≠ .own) : VRel I ρ N w (.sl k o' xs) cv := by
  cases h with
  | sln => exact .sln _ _
  | sle _ _ ad _ => exact .sle _ _ ad hn
  | sl _ _ _ b off len cap hl hc hm hf f hI hw hv => exact .sl k o' xs b off len cap hl hc hm (fun h => hf (ho h)) f hI hw hv

theorem VRel.disown {v : V} {cv : Value} (h : VRel I ρ N w v cv) : VRel I ρ N w (disown v) cv := by
  cases v <;> simp only [AM.disown] <;> first | exact h | exact h.own (by rename_i o _; cases o <;> simp [Fl.dis]) (by rename_i o _; cases o <;> simp [Fl.dis]) | (cases h; exact .junk _ rfl) | (cases h; rename_i hm; exact .hd _ _ _ hm) | exact .undef _

theorem disown_nil (v : V) (cv : Value) : OwnNil (AM.disown v) cv := by
  cases v with
  | sl k o xs => cases o <;> simp [AM.disown, OwnNil, Fl.dis]
  | _ => simp [AM.disown, OwnNil]

theorem disown_one (v : V) : (disown v).one = v.one := by cases v <;> rfl

theorem VRel.oneCell {v : V} {cv : Value} (h : VRel I ρ N w v cv) (h1 : v.one = true) : cv.oneCell' = true := by
  cases h <;> first | rfl | assumption | simp [V.one] at h1

theorem enc_one (k : EK) (x : Ty k) : ∀ c ∈ enc k x, c.one = true := by
  cases k <;> simp [enc, V.one]

theorem enc_length (k : EK) (x : Ty k) : (enc k x).length = k.sz := by
  cases k <;> rfl

theorem VRel.weak {v : V} {cv : Value} (h : VRel I ρ N w v cv) : VRel I ρ N w v.weak cv := by
  cases v <;> simp only [V.weak] <;> first | exact h.own (by simp) (by simp) | exact h.disown

theorem VRel.full {k : EK} {xs : List (Ty k)} {a : Addr} {len cap : Nat} (h : VRel I ρ N w (.sl k (.may true) xs) (.slice (some a) len cap)) : len = cap := by
  cases h with
  | sle => rfl
  | sl _ _ _ b off _ _ hl hc hm hf f hI hw hv => exact hf rfl

theorem weak_one (v : V) : v.weak.one = v.one := by cases v <;> rfl

theorem enc_weak (k : EK) (x : Ty k) : (enc k x).map V.weak = enc k x := by
  cases k <;> rfl

theorem enc_disown (k : EK) (x : Ty k) : (enc k x).map AM.disown = enc k x := by
  cases k <;> rfl

/-- the numbers that a kind has -/
def V.inRange : V → Prop
  | .int k n => k.min ≤ n ∧ n ≤ k.max
  | _ => True

theorem VRel.inRange {v : V} {cv : Value} (h : VRel I ρ N w v cv) : v.inRange := by
  cases h <;> simp only [V.inRange] <;> assumption

theorem dec_enc {k : EK} {cs : List V} {x : Ty k} (h : dec k cs = some x) (hr : ∀ c ∈ cs, c.inRange) : enc k x = cs.map V.weak := by
  unfold dec at h
  split at h <;> first
    | (cases Option.some.inj h; rfl)
    | (cases Option.some.inj h; simp [enc, V.weak, AM.disown]; done)
    | (cases Option.some.inj h
       have := hr _ (List.mem_singleton.2 rfl)
       simp only [V.inRange, IntKind.min, IntKind.max, IntKind.signed, IntKind.bits] at this
       simp [enc, V.weak, AM.disown] at this ⊢
       omega)
    | exact absurd h (by simp)
end

def V.flat1 : V → Bool
  | .bool _ | .int _ _ | .str _ | .sl _ _ _ | .nilp | .nilif | .fn _ [] => true
  | _ => false

section
variable {I : Nat → Nat → Prop} {ρ ρ' : Nat → Nat} {N N' : Nat} {w : World}

theorem enc_flat (k : EK) (x : Ty k) : ∀ c ∈ enc k x, c.flat1 = true := by
  cases k <;> simp [enc, V.flat1]

theorem VRel.flat1 {v : V} {cv : Value} (h : VRel I ρ N w v cv) : v.flat1 = true → VRel I ρ' N' w v cv := by
  induction h with
  | undef cv => intro hf; simp [V.flat1] at hf
  | bool b => intro _; exact .bool b
  | int k n h => intro _; exact .int k n h
  | str l s hl h => intro _; exact .str l s hl h
  | sln k o => intro _; exact .sln k o
  | sle k o ad ho => intro _; exact .sle k o ad ho
  | sl k o xs b off len cap hl hc hm hf f hI hw hv ih =>
    intro _
    exact .sl k o xs b off len cap hl hc hm hf f hI hw (fun i x j v h1 h2 => ih i x j v h1 h2 (enc_flat k x v (List.mem_of_getElem? h2)))
  | agg => intro hf; simp [V.flat1] at hf
  | tup => intro hf; simp [V.flat1] at hf
  | ea => intro hf; simp [V.flat1] at hf
  | ptr => intro hf; simp [V.flat1] at hf
  | nilp => intro _; exact .nilp
  | fn f cs vs hl hv ih =>
    intro hf
    cases cs with
    | nil => exact .fn f [] vs hl (by simp)
    | cons c cs => simp [V.flat1] at hf
  | nilif => intro _; exact .nilif
  | bn => intro hf; simp [V.flat1] at hf
  | junk => intro hf; simp [V.flat1] at hf
  | so => intro hf; simp [V.flat1] at hf
  | raw => intro hf; simp [V.flat1] at hf
  | ul => intro hf; simp [V.flat1] at hf
  | hd => intro hf; simp [V.flat1] at hf
  | sw => intro hf; simp [V.flat1] at hf
  | wp => intro hf; simp [V.flat1] at hf

end

/-- no cell of the row is laid for good by the world itself -/
def Cold (fz : Nat × Nat) (n : Nat) : Prop := ∀ j, j < n → ¬ (fz.1 ≤ j ∧ j < fz.2)
theorem cold0 (n : Nat) : Cold (0, 0) n := by intro j _; simp

/-- a list that its place alone owns: nobody else knows of its row -/
def ULOK (g : Gh) (w : World) (occ : Occ) (k : EK) (xs : List (Ty k)) (cv : Value) : Prop :=
  (xs = [] ∧ cv = .slice none 0 0) ∨
  ∃ b cap arr e fz, Cold fz arr.size ∧ cv = .slice (some ⟨b, 0, none⟩) xs.length cap ∧ xs.length ≤ cap ∧ cap ≤ maxI ∧ g.O b = some occ ∧ w.heap[b]? = some (.cells arr e fz) ∧ cap * k.sz ≤ arr.size ∧ (k = .u8 → e = g.β) ∧
    (∀ j, ¬ g.I b j) ∧ ∀ (i : Nat) x (j : Nat) v u, xs[i]? = some x → (enc k x)[j]? = some v → arr[i * k.sz + j]? = some u → VRel g.I (fun _ => 0) 0 w v u

/-- who may write behind a slice's end: the row's own tail -/
def OwnOK (g : Gh) (w : World) (occ : Occ) (v : V) (cv : Value) : Prop :=
  match v, cv with
  | .sl k .own _, .slice (some a) len cap =>
    g.O a.block = some occ ∧ (∃ arr e fz, w.heap[a.block]? = some (.cells arr e fz) ∧ a.off + cap * k.sz ≤ arr.size ∧ (k = .u8 → e = g.β)) ∧
      ∀ j, a.off + len * k.sz ≤ j → j < a.off + cap * k.sz → ¬ g.I a.block j ∧ w.frozen? ⟨a.block, j, none⟩ = false
  | .raw n, .pointer (some a) => g.O a.block = some occ ∧ (∃ arr e, w.heap[a.block]? = some (.cells arr e (0, 0)) ∧ arr.size = n) ∧ ∀ j, ¬ g.I a.block j
  | .ul k xs, cv => ULOK g w occ k xs cv
  | _, _ => True

theorem ULOK.keep {g g' : Gh} {w w' : World} {occ : Occ} {k : EK} {xs : List (Ty k)} {cv : Value} (h : ULOK g w occ k xs cv) (hβ : g'.β = g.β)
    (hI : ∀ b j, g.I b j → g'.I b j ∧ w'.cell? ⟨b, j, none⟩ = w.cell? ⟨b, j, none⟩)
    (hk : ∀ b, g.O b = some occ → g'.O b = some occ ∧ w'.heap[b]? = w.heap[b]? ∧ ∀ j, g'.I b j → g.I b j) : ULOK g' w' occ k xs cv := by
  rcases h with h | ⟨b, cap, arr, e, fz, h0, h1, h2, h3, h4, h5, h6, h7, h8, h9⟩
  · exact .inl h
  · obtain ⟨k1, k2, k3⟩ := hk b h4
    refine .inr ⟨b, cap, arr, e, fz, h0, h1, h2, h3, k1, k2.trans h5, h6, fun hk => (h7 hk).trans hβ.symm, fun j hj => h8 j (k3 j hj), fun i x j v u a1 a2 a3 => ?_⟩
    exact (h9 i x j v u a1 a2 a3).up ⟨fun b j hi => (hI b j hi).1, fun b j hi => (hI b j hi).2, fun _ _ => rfl, Nat.le_refl _⟩

theorem own_keep {g g' : Gh} {w w' : World} {occ : Occ} {v : V} {cv : Value} (h : OwnOK g w occ v cv)
    (hβ : g'.β = g.β) (hI : ∀ b j, g.I b j → g'.I b j ∧ w'.cell? ⟨b, j, none⟩ = w.cell? ⟨b, j, none⟩)
    (hk : ∀ b, g.O b = some occ → g'.O b = some occ ∧ w'.heap[b]? = w.heap[b]? ∧ ∀ j, g'.I b j → g.I b j) : OwnOK g' w' occ v cv := by
  unfold OwnOK at h ⊢
  split
  · rename_i k xs ad len cap
    obtain ⟨h1, ⟨arr, e, fz, h2, h3, h5⟩, h4⟩ := h
    obtain ⟨k1, k2, k3⟩ := hk _ h1
    refine ⟨k1, ⟨arr, e, fz, k2.trans h2, h3, fun hk => by rw [hβ]; exact h5 hk⟩, fun j hj1 hj2 => ?_⟩
    obtain ⟨m1, m2⟩ := h4 j hj1 hj2
    refine ⟨fun hi => m1 (k3 j hi), ?_⟩
    simpa [World.frozen?, k2] using m2
  · obtain ⟨h1, ⟨arr, e, h2, h3⟩, h4⟩ := h
    obtain ⟨k1, k2, k3⟩ := hk _ h1
    exact ⟨k1, ⟨arr, e, k2.trans h2, h3⟩, fun j hi => h4 j (k3 j hi)⟩
  · exact ULOK.keep h hβ hI hk
  · trivial

theorem OwnOK.disown (g : Gh) (w : World) (occ : Occ) (v : V) (cv : Value) : OwnOK g w occ (AM.disown v) cv := by
  cases v with
  | sl k o xs => cases o <;> simp [AM.disown, OwnOK, Fl.dis]
  | _ => simp only [AM.disown, OwnOK]

/-- an object's cells -/
def cellsOf : List V → List V
  | [.rb xs] => xs.map fun b => .int .u8 b.toNat
  | [.rw k xs] => xs.flatMap (enc k)
  | cs => cs

theorem cellsOf_eq {cs : List V} (h : isRow cs = false) : cellsOf cs = cs := by
  unfold cellsOf
  split
  · simp [isRow] at h
  · simp [isRow] at h
  · rfl

/-- an object's row -/
structure ObjOK (g : Gh) (N : Nat) (w : World) (id : Nat) (cs : List V) (arr : Array Value) (e : TypeId) (fz : Nat × Nat) : Prop where
  len : (cellsOf cs).length ≤ arr.size
  plain : isRow cs = false → cs.length = arr.size ∧ fz = (0, 0)
  typed : ∀ k xs, cs = [.rw k xs] → Cold fz arr.size ∧ g.ρ (id + 1) * k.sz ≤ arr.size ∧ id + 1 < N ∧ (k = .u8 → e = g.β)
  cold : ∀ j, j < (cellsOf cs).length → ¬ (fz.1 ≤ j ∧ j < fz.2)
  one : ∀ c ∈ cellsOf cs, c.one = true
  rel : ∀ (j : Nat) c cv, (cellsOf cs)[j]? = some c → arr[j]? = some cv → VRel g.I g.ρ N w c cv
  own : ∀ (j : Nat) c cv, (cellsOf cs)[j]? = some c → arr[j]? = some cv → OwnOK g w (.cell id j) c cv
  bn : ∀ (j E n : Nat), (cellsOf cs)[j]? = some (.bn E n) → E = e ∧ n = arr.size ∧ (arr[j]? = some (.pointer none) ∨ arr[j]? = some (.pointer (some ⟨g.ρ id, j, none⟩)))

theorem ObjOK.typedUp {g g' : Gh} {N N' : Nat} {w : World} {id : Nat} {cs : List V} {arr arr' : Array Value} {e : TypeId} {fz : Nat × Nat} (h : ObjOK g N w id cs arr e fz)
    (hβ : g'.β = g.β) (hr : ∀ id, id < N → g'.ρ id = g.ρ id) (hn : N ≤ N') (ha : arr.size = arr'.size) :
    ∀ k xs, cs = [.rw k xs] → Cold fz arr'.size ∧ g'.ρ (id + 1) * k.sz ≤ arr'.size ∧ id + 1 < N' ∧ (k = .u8 → e = g'.β) := by
  intro k xs hc
  obtain ⟨a, b, c, d⟩ := h.typed k xs hc
  exact ⟨ha ▸ a, by rw [hr _ c]; omega, by omega, fun hk => (d hk).trans hβ.symm⟩

/-- an object's row, cell by cell -/
structure ObjOK0 (g : Gh) (N : Nat) (w : World) (id : Nat) (cs : List V) (arr : Array Value) (e : TypeId) : Prop where
  len : cs.length = arr.size
  one : ∀ c ∈ cs, c.one = true
  rel : ∀ (j : Nat) c cv, cs[j]? = some c → arr[j]? = some cv → VRel g.I g.ρ N w c cv
  own : ∀ (j : Nat) c cv, cs[j]? = some c → arr[j]? = some cv → OwnOK g w (.cell id j) c cv
  bn : ∀ (j E n : Nat), cs[j]? = some (.bn E n) → E = e ∧ n = arr.size ∧ (arr[j]? = some (.pointer none) ∨ arr[j]? = some (.pointer (some ⟨g.ρ id, j, none⟩)))

theorem isRow_one {cs : List V} (h : ∀ c ∈ cs, c.one = true) : isRow cs = false := by
  unfold isRow
  split
  · have := h _ (List.mem_singleton.2 rfl)
    simp [V.one] at this
  · have := h _ (List.mem_singleton.2 rfl)
    simp [V.one] at this
  · rfl

theorem ObjOK.low {g : Gh} {N : Nat} {w : World} {id : Nat} {cs : List V} {arr : Array Value} {e : TypeId} {fz : Nat × Nat} (h : ObjOK g N w id cs arr e fz) (hr : isRow cs = false) :
    fz = (0, 0) ∧ ObjOK0 g N w id cs arr e := by
  have e1 := cellsOf_eq hr
  obtain ⟨a, b, t, c, d, f, g, i⟩ := h
  rw [e1] at d f g i
  exact ⟨(b hr).2, (b hr).1, d, f, g, i⟩

theorem ObjOK0.high {g : Gh} {N : Nat} {w : World} {id : Nat} {cs : List V} {arr : Array Value} {e : TypeId} (h : ObjOK0 g N w id cs arr e) : ObjOK g N w id cs arr e (0, 0) := by
  have hr := isRow_one h.one
  have e1 := cellsOf_eq hr
  obtain ⟨a, d, f, g, i⟩ := h
  exact ⟨by rw [e1, a]; exact Nat.le_refl _, fun _ => ⟨a, rfl⟩, by rintro k xs rfl; simp [isRow] at hr, by intro j _; simp, by rw [e1]; exact d, by rw [e1]; exact f, by rw [e1]; exact g, by rw [e1]; exact i⟩

/-- the objects and what is laid for good, in a world -/
structure HR (g : Gh) (hp : List AObj) (w : World) : Prop where
  obj : ∀ (id : Nat) cs, hp[id]? = some (some cs) → ∃ arr e fz, w.heap[g.ρ id]? = some (.cells arr e fz) ∧ ObjOK g hp.length w id cs arr e fz
  apart : ∀ (id id' : Nat) cs cs', hp[id]? = some (some cs) → hp[id']? = some (some cs') → id ≠ id' → g.ρ id ≠ g.ρ id'
  notI : ∀ (id : Nat) cs, hp[id]? = some (some cs) → ∀ j, ¬ g.I (g.ρ id) j
  notO : ∀ (id : Nat) cs, hp[id]? = some (some cs) → g.O (g.ρ id) = none
  exI : ∀ b j, g.I b j → (w.cell? ⟨b, j, none⟩).isSome = true
  oLt : ∀ b o, g.O b = some o → b < w.heap.size

/-- the slots -/
structure ER (g : Gh) (N : Nat) (w : World) (env : List V) (tmps : Array Value) : Prop where
  size : env.length = tmps.size
  rel : ∀ (n : Nat) v cv, env[n]? = some v → tmps[n]? = some cv → VRel g.I g.ρ N w v cv
  own : ∀ (n : Nat) v cv, env[n]? = some v → tmps[n]? = some cv → OwnOK g w (.slot n) v cv

/-- what has not turned since a call began -/
structure FR (g₀ : Gh) (hp₀ : List AObj) (w₀ : World) (g : Gh) (hp : List AObj) (w : World) : Prop where
  beta : g.β = g₀.β
  os : w.os = w₀.os
  tape : w.tape = w₀.tape
  output : w.output = w₀.output
  size : w₀.heap.size ≤ w.heap.size
  block : ∀ b, b < w₀.heap.size → (∀ (id : Nat) cs, hp₀[id]? = some (some cs) → g₀.ρ id ≠ b) → g₀.O b = none → w.heap[b]? = w₀.heap[b]?
  up : Up g₀.I g₀.ρ hp₀.length w₀ g.I g.ρ hp.length w
  iSame : ∀ b j, b < w₀.heap.size → (∀ (id : Nat) cs, hp₀[id]? = some (some cs) → g₀.ρ id ≠ b) → g₀.O b = none → g.I b j → g₀.I b j
  oSame : ∀ b, b < w₀.heap.size → (∀ (id : Nat) cs, hp₀[id]? = some (some cs) → g₀.ρ id ≠ b) → g₀.O b = none → g.O b = none
  live : ∀ (id : Nat) cs, hp[id]? = some (some cs) → (∃ cs₀, hp₀[id]? = some (some cs₀)) ∨ (hp₀.length ≤ id ∧ (w₀.heap.size ≤ g.ρ id ∨ g₀.O (g.ρ id) ≠ none ∨ ∃ (id' : Nat) (cs' : List V), hp₀[id']? = some (some cs') ∧ g₀.ρ id' = g.ρ id))

theorem FR.refl (g : Gh) (hp : List AObj) (w : World) : FR g hp w g hp w :=
  ⟨rfl, rfl, rfl, rfl, Nat.le_refl _, fun _ _ _ _ => rfl, Up.refl _ _ _ _, fun _ _ _ _ _ h => h, fun _ _ _ h => h, fun _ cs h => .inl ⟨cs, h⟩⟩

/-- a block that was no object's is none's later on -/
theorem FR.noObj {g₀ g₁ : Gh} {hp₀ hp₁ : List AObj} {w₀ w₁ : World} (h : FR g₀ hp₀ w₀ g₁ hp₁ w₁) {b : Nat} (hb : b < w₀.heap.size) (ho : ∀ (id : Nat) cs, hp₀[id]? = some (some cs) → g₀.ρ id ≠ b) (hO : g₀.O b = none) :
    ∀ (id : Nat) cs, hp₁[id]? = some (some cs) → g₁.ρ id ≠ b := by
  intro id cs hid e
  rcases h.live id cs hid with ⟨cs₀, h0⟩ | ⟨_, h1 | h1 | ⟨id', cs', h1, h2⟩⟩
  · refine ho id cs₀ h0 ?_
    have hlt : id < hp₀.length := (List.getElem?_eq_some_iff.1 h0).1
    rw [← h.up.rho id hlt]; exact e
  · omega
  · rw [e] at h1; exact h1 hO
  · exact ho id' cs' h1 (h2.trans e)

theorem FR.trans {g₀ g₁ g₂ : Gh} {hp₀ hp₁ hp₂ : List AObj} {w₀ w₁ w₂ : World} (h : FR g₀ hp₀ w₀ g₁ hp₁ w₁) (k : FR g₁ hp₁ w₁ g₂ hp₂ w₂) : FR g₀ hp₀ w₀ g₂ hp₂ w₂ := by
  refine ⟨k.beta.trans h.beta, k.os.trans h.os, k.tape.trans h.tape, k.output.trans h.output, Nat.le_trans h.size k.size, ?_, h.up.trans k.up, ?_, ?_, ?_⟩
  · intro b hb ho hO
    exact (k.block b (Nat.lt_of_lt_of_le hb h.size) (h.noObj hb ho hO) (h.oSame b hb ho hO)).trans (h.block b hb ho hO)
  · intro b j hb ho hO hI
    exact h.iSame b j hb ho hO (k.iSame b j (Nat.lt_of_lt_of_le hb h.size) (h.noObj hb ho hO) (h.oSame b hb ho hO) hI)
  · intro b hb ho hO
    exact k.oSame b (Nat.lt_of_lt_of_le hb h.size) (h.noObj hb ho hO) (h.oSame b hb ho hO)
  · intro id cs hid
    rcases k.live id cs hid with ⟨cs₁, h1⟩ | ⟨h1, h2⟩
    · rcases h.live id cs₁ h1 with h0 | ⟨h0, h3⟩
      · exact .inl h0
      · refine .inr ⟨h0, ?_⟩
        rw [k.up.rho id (List.getElem?_eq_some_iff.1 h1).1]; exact h3
    · refine .inr ⟨Nat.le_trans h.up.num h1, ?_⟩
      by_cases hlt : g₂.ρ id < w₀.heap.size
      · right
        by_cases hO : g₀.O (g₂.ρ id) = none
        · right
          by_cases ho : ∀ (id' : Nat) cs, hp₀[id']? = some (some cs) → g₀.ρ id' ≠ g₂.ρ id
          · exact absurd rfl (FR.noObj k (Nat.lt_of_lt_of_le hlt h.size) (h.noObj hlt ho hO) (h.oSame _ hlt ho hO) id cs hid)
          · exact Classical.byContradiction fun hn => ho fun id' cs' h3 h4 => hn ⟨id', cs', h3, h4⟩
        · left; exact hO
      · left; omega

end Go.AM
