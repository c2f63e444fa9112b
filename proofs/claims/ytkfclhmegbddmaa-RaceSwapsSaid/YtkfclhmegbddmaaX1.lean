/- AWP, text 1: values as trees, how they lie in memory, the abstract store, and what may change. -/
import Derived.Calls
import Derived.Orders
import Derived.Below
import Derived.Laws.AppendOwn
import Derived.KernelRfl
import Derived.Laws.Rows
import Derived.Laws.Entries
import Derived.Laws.Cells
import Derived.Deep.MidRow
import Derived.Laws.StructEq
import Derived.Laws.CopyRow
import Derived.Laws.Tables
set_option linter.all false
namespace Go.Awp
open Go

abbrev Id := Nat × Nat

/-- Where a mutable thing of the abstract store lies. -/
inductive Loc where
  | unborn
  | cells (b : Nat)
  | vec (hv : Value) (ver : Nat)

/-- The block that a slice may write. -/
def hblk : Value → Option Nat
  | .slice (some a) _ c => if c = 0 then none else some a.block
  | _ => none

def Loc.block : Loc → Option Nat
  | .unborn => none
  | .cells b => some b
  | .vec hv _ => hblk hv

/-- A slice all of whose array is one's own: its elements' cells. -/
def Owns (w : World) (t : TypeId) (s : Nat) (hv : Value) (n : Nat) (xs : List Value) : Prop :=
  xs.length = n * s ∧
  ((∃ a, hv = .slice a 0 0 ∧ n = 0) ∨
   ∃ g cap cur, 0 < cap ∧ hv = .slice (some ⟨g, 0, none⟩) n cap ∧ w.heap[g]? = some (.cells cur t (0, 0)) ∧ n ≤ cap ∧ cap ≤ maxLen ∧ cur.size = cap * s ∧ cur.toList.take (n * s) = xs)

theorem Owns.lt {w : World} {t s n : Nat} {hv : Value} {xs : List Value} (h : Owns w t s hv n xs) {b : Nat} (hb : hblk hv = some b) : b < w.heap.size := by
  rcases h.2 with ⟨a, rfl, _⟩ | ⟨g, cap, cur, hc, rfl, hg, _⟩
  · cases a <;> simp [hblk] at hb
  · simp [hblk] at hb
    obtain ⟨_, rfl⟩ := hb
    exact (Array.getElem?_eq_some_iff.1 hg).1

/-- The ambient: which cells never change any more, where ids lie, the world. -/
structure Amb where
  I : Nat → Nat → Prop
  ι : Id → Loc
  w : World

def Loc.Le : Loc → Loc → Prop
  | .unborn, _ => True
  | .cells b, l => l = .cells b
  | .vec hv n, l => ∃ hv' n', l = .vec hv' n' ∧ n ≤ n' ∧ (n = n' → hv' = hv)

theorem Loc.Le.refl (l : Loc) : l.Le l := by
  cases l with
  | unborn => trivial
  | cells b => rfl
  | vec hv n => exact ⟨hv, n, rfl, Nat.le_refl _, fun _ => rfl⟩

theorem Loc.Le.trans {a b c : Loc} (h : a.Le b) (k : b.Le c) : a.Le c := by
  cases a with
  | unborn => trivial
  | cells x => cases h; exact k
  | vec hv n =>
    obtain ⟨hv', n', rfl, hn, he⟩ := h
    obtain ⟨hv'', n'', rfl, hn', he'⟩ := k
    refine ⟨hv'', n'', rfl, Nat.le_trans hn hn', fun e => ?_⟩
    have e1 : n = n' := by omega
    have e2 : n' = n'' := by omega
    rw [he' e2, he e1]

structure Amb.Le (E E' : Amb) : Prop where
  imm : ∀ b o, E.I b o → E'.I b o
  cell : ∀ b o, E.I b o → E'.w.cell? ⟨b, o, none⟩ = E.w.cell? ⟨b, o, none⟩
  loc : ∀ id, (E.ι id).Le (E'.ι id)

theorem Amb.Le.refl (E : Amb) : E.Le E := ⟨fun _ _ h => h, fun _ _ _ => rfl, fun _ => Loc.Le.refl _⟩

theorem Amb.Le.trans {A B D : Amb} (h : A.Le B) (k : B.Le D) : A.Le D :=
  ⟨fun b o i => k.imm b o (h.imm b o i), fun b o i => (k.cell b o (h.imm b o i)).trans (h.cell b o i), fun id => (h.loc id).trans (k.loc id)⟩

/-- A value as a tree. -/
inductive V where
  | any
  | bool (b : Bool)
  | int (k : IntKind) (n : Int)
  | float (k : FloatKind) (bits : Nat)
  | cplx (k : FloatKind) (re im : Nat)
  | str (s : ByteArray)
  | nilp
  | ptr (id : Id) (off : Nat)
  | eptr (id : Id) (ver s i off : Nat)
  | rptr (v : V)
  | snil
  | slice (es : List V)
  | vec (id : Id) (ver : Nat)
  | vsub (id : Id) (ver s lo len : Nat)
  | func (fn : Fn) (first cap : List V)
  | nilf
  | iface (t : TypeId) (v : V)
  | nili
  | agg (cs : List V)
  | tup (vs : List V)
  deriving Inhabited

def V.cells : V → List V
  | .agg cs => cs
  | v => [v]

def V.scalar : V → Bool
  | .any | .agg _ | .tup _ => false
  | _ => true

/-- May it lie in memory? -/
def V.wf : V → Bool
  | .any | .tup _ => false
  | _ => true

def V.ok (v : V) : Prop := ∀ c ∈ v.cells, c.scalar = true

mutual
/-- The tree v stands for the value. -/
inductive Rep (E : Amb) : V → Value → Prop
  | any (cv : Value) : Rep E .any cv
  | bool (b : Bool) : Rep E (.bool b) (.bool b)
  | int (k : IntKind) (n : Int) : Rep E (.int k n) (.int k n)
  | float (k : FloatKind) (n : Nat) : Rep E (.float k n) (.float k n)
  | cplx (k : FloatKind) (n m : Nat) : Rep E (.cplx k n m) (.complex k n m)
  | str (s : ByteArray) : Rep E (.str s) (.string s)
  | nilp : Rep E .nilp (.pointer none)
  | ptr {id : Id} {b off : Nat} (h : E.ι id = .cells b) : Rep E (.ptr id off) (.pointer (some ⟨b, off, none⟩))
  | eptr {id : Id} {ver ver' s i off b : Nat} {hv : Value} (h : E.ι id = .vec hv ver') (hle : ver ≤ ver')
      (hc : ver = ver' → ∃ n c, hv = .slice (some ⟨b, 0, none⟩) n c) : Rep E (.eptr id ver s i off) (.pointer (some ⟨b, i * s + off, none⟩))
  | rptr {v : V} {cvs : List Value} {b o : Nat} (hl : RepL E v.cells cvs) (hw : v.ok)
      (hc : ∀ j u, cvs[j]? = some u → E.w.cell? ⟨b, o + j, none⟩ = some u ∧ E.I b (o + j)) : Rep E (.rptr v) (.pointer (some ⟨b, o, none⟩))
  | snil (a : Option Addr) : Rep E .snil (.slice a 0 0)
  | slice0 (a : Option Addr) (c : Nat) : Rep E (.slice []) (.slice a 0 c)
  | slice {es : List V} {cvs : List Value} {b o cap s : Nat} (hl : RepL E (es.flatMap V.cells) cvs)
      (hc : ∀ j u, cvs[j]? = some u → E.w.cell? ⟨b, o + j, none⟩ = some u ∧ E.I b (o + j))
      (hu : ∀ e ∈ es, e.cells.length = s ∧ e.ok) (hcap : es.length ≤ cap) : Rep E (.slice es) (.slice (some ⟨b, o, none⟩) es.length cap)
  | vec {id : Id} {ver ver' : Nat} {hv : Value} {a : Option Addr} {n c : Nat} (h : E.ι id = .vec hv ver') (hle : ver ≤ ver')
      (hc : ver = ver' → hv = .slice a n c) : Rep E (.vec id ver) (.slice a n c)
  | vsub {id : Id} {ver ver' s lo len : Nat} {hv : Value} {a : Option Addr} {c : Nat} (h : E.ι id = .vec hv ver') (hle : ver ≤ ver')
      (hc : ver = ver' → ∃ b n c0, hv = .slice b n c0 ∧ lo + len ≤ n ∧ n ≤ c0 ∧ c = c0 - lo ∧ (lo < c0 → a = b.map (·.add (lo * s)))) : Rep E (.vsub id ver s lo len) (.slice a len c)
  | func {fn : Fn} {first cap : List V} {fs cs : List Value} (h1 : RepL E first fs) (h2 : RepL E cap cs) : Rep E (.func fn first cap) (.func fn fs.toArray cs.toArray)
  | nilf : Rep E .nilf .nilFunc
  | iface {t : TypeId} {v : V} {cv : Value} (h : Rep E v cv) : Rep E (.iface t v) (.iface t cv)
  | nili : Rep E .nili .nilIface
  | agg {cs : List V} {cvs : List Value} (h : RepL E cs cvs) (hs : ∀ c ∈ cs, c.scalar = true) : Rep E (.agg cs) (.agg cvs.toArray)
  | tup {vs : List V} {cvs : List Value} (h : RepL E vs cvs) : Rep E (.tup vs) (.tuple cvs.toArray)

inductive RepL (E : Amb) : List V → List Value → Prop
  | nil : RepL E [] []
  | cons {v : V} {cv : Value} {vs : List V} {cvs : List Value} (h : Rep E v cv) (t : RepL E vs cvs) : RepL E (v :: vs) (cv :: cvs)
end

section
variable {E E' : Amb}

theorem Amb.Le.cells (h : E.Le E') {b o : Nat} {cvs : List Value}
    (hc : ∀ j u, cvs[j]? = some u → E.w.cell? ⟨b, o + j, none⟩ = some u ∧ E.I b (o + j)) :
    ∀ j u, cvs[j]? = some u → E'.w.cell? ⟨b, o + j, none⟩ = some u ∧ E'.I b (o + j) :=
  fun j u hj => ⟨(h.cell b _ (hc j u hj).2).trans (hc j u hj).1, h.imm _ _ (hc j u hj).2⟩

theorem Rep.mono (hE : E.Le E') {v : V} {cv : Value} (h : Rep E v cv) : Rep E' v cv := by
  induction h using Rep.rec (motive_2 := fun vs cvs _ => RepL E' vs cvs) with
  | any => exact .any _
  | bool => exact .bool _
  | int => exact .int _ _
  | float => exact .float _ _
  | cplx => exact .cplx _ _ _
  | str => exact .str _
  | nilp => exact .nilp
  | @ptr id b off h => have := hE.loc id; rw [h] at this; exact .ptr this
  | @eptr id ver ver' s i off b hv h hle hc =>
    have := hE.loc id; rw [h] at this
    obtain ⟨hv', n', e, hn, he⟩ := this
    refine .eptr e (Nat.le_trans hle hn) fun ev => ?_
    have e1 : ver' = n' := by omega
    obtain ⟨n, c, e2⟩ := hc (by omega)
    exact ⟨n, c, by rw [he e1, e2]⟩
  | rptr hl hw hc ih => exact .rptr ih hw (hE.cells hc)
  | snil => exact .snil _
  | slice0 => exact .slice0 _ _
  | slice hl hc hu hcap ih => exact .slice ih (hE.cells hc) hu hcap
  | @vec id ver ver' hv a n c h hle hc =>
    have := hE.loc id; rw [h] at this
    obtain ⟨hv', n', e, hn, he⟩ := this
    refine .vec e (Nat.le_trans hle hn) fun ev => ?_
    have e1 : ver' = n' := by omega
    rw [he e1, hc (by omega)]
  | @vsub id ver ver' s lo len hv a c h hle hc =>
    have := hE.loc id; rw [h] at this
    obtain ⟨hv', n', e, hn, he⟩ := this
    refine .vsub e (Nat.le_trans hle hn) fun ev => ?_
    have e1 : ver' = n' := by omega
    rw [he e1]; exact hc (by omega)
  | func h1 h2 i1 i2 => exact .func i1 i2
  | nilf => exact .nilf
  | iface h ih => exact .iface ih
  | nili => exact .nili
  | agg h hs ih => exact .agg ih hs
  | tup h ih => exact .tup ih
  | nil => exact .nil
  | cons h t i1 i2 => exact .cons i1 i2

theorem RepL.mono (hE : E.Le E') {vs : List V} {cvs : List Value} (h : RepL E vs cvs) : RepL E' vs cvs := by
  induction vs generalizing cvs with
  | nil => cases h; exact .nil
  | cons v vs ih => cases h with | cons h t => exact .cons (h.mono hE) (ih t)

theorem RepL.length {vs : List V} {cvs : List Value} (h : RepL E vs cvs) : cvs.length = vs.length := by
  induction vs generalizing cvs with
  | nil => cases h; rfl
  | cons v vs ih => cases h with | cons h t => simp [ih t]

theorem RepL.get {vs : List V} {cvs : List Value} (h : RepL E vs cvs) {i : Nat} {v : V} (hi : vs[i]? = some v) : ∃ cv, cvs[i]? = some cv ∧ Rep E v cv := by
  induction vs generalizing cvs i with
  | nil => simp at hi
  | cons x vs ih =>
    cases h with
    | cons h t =>
      cases i with
      | zero => simp at hi; subst hi; exact ⟨_, rfl, h⟩
      | succ i => simp at hi; obtain ⟨cv, e, r⟩ := ih t hi; exact ⟨cv, by simpa using e, r⟩

theorem RepL.getV {vs : List V} {cvs : List Value} (h : RepL E vs cvs) {i : Nat} {cv : Value} (hi : cvs[i]? = some cv) : ∃ v, vs[i]? = some v ∧ Rep E v cv := by
  induction vs generalizing cvs i with
  | nil => cases h; simp at hi
  | cons x vs ih =>
    cases h with
    | cons h t =>
      cases i with
      | zero => simp at hi; subst hi; exact ⟨_, rfl, h⟩
      | succ i => simp at hi; obtain ⟨v, e, r⟩ := ih t hi; exact ⟨v, by simpa using e, r⟩

theorem RepL.append {vs us : List V} {cvs dvs : List Value} (h : RepL E vs cvs) (k : RepL E us dvs) : RepL E (vs ++ us) (cvs ++ dvs) := by
  induction vs generalizing cvs with
  | nil => cases h; exact k
  | cons x vs ih => cases h with | cons h t => exact .cons h (ih t)

theorem RepL.take {vs : List V} {cvs : List Value} (h : RepL E vs cvs) (n : Nat) : RepL E (vs.take n) (cvs.take n) := by
  induction vs generalizing cvs n with
  | nil => cases h; simpa using RepL.nil
  | cons x vs ih =>
    cases h with
    | cons h t => cases n with
      | zero => exact .nil
      | succ n => exact .cons h (ih t n)

theorem RepL.drop {vs : List V} {cvs : List Value} (h : RepL E vs cvs) (n : Nat) : RepL E (vs.drop n) (cvs.drop n) := by
  induction vs generalizing cvs n with
  | nil => cases h; simpa using RepL.nil
  | cons x vs ih =>
    cases h with
    | cons h t => cases n with
      | zero => exact .cons h t
      | succ n => exact ih t n

theorem RepL.split {vs us : List V} {cvs : List Value} (h : RepL E (vs ++ us) cvs) : ∃ a b, cvs = a ++ b ∧ RepL E vs a ∧ RepL E us b := by
  refine ⟨cvs.take vs.length, cvs.drop vs.length, (List.take_append_drop _ _).symm, ?_, ?_⟩
  · have := h.take vs.length; simpa using this
  · have := h.drop vs.length; simpa using this

theorem RepL.set {vs : List V} {cvs : List Value} (h : RepL E vs cvs) (i : Nat) {v : V} {cv : Value} (hv : Rep E v cv) : RepL E (vs.set i v) (cvs.set i cv) := by
  induction vs generalizing cvs i with
  | nil => cases h; simpa using RepL.nil
  | cons x vs ih =>
    cases h with
    | cons h t => cases i with
      | zero => exact .cons hv t
      | succ i => exact .cons h (ih t i)

theorem Rep.one {v : V} {cv : Value} (h : Rep E v cv) (hs : v.scalar = true) : cv.oneCell' = true := by
  cases h <;> first | rfl | simp [V.scalar] at hs

/-- A value's cells stand for the tree's. -/
theorem Rep.cells {v : V} {cv : Value} (h : Rep E v cv) (hw : v.wf = true) : RepL E v.cells cv.cells.toList ∧ v.ok := by
  cases h
  case any => simp [V.wf] at hw
  case tup => simp [V.wf] at hw
  case agg h hs => exact ⟨by simpa [Value.cells, V.cells] using h, hs⟩
  all_goals exact ⟨.cons (by constructor <;> assumption) .nil, by simp [V.ok, V.cells, V.scalar]⟩

theorem RepL.scalars {vs : List V} {cvs : List Value} (h : RepL E vs cvs) (hs : ∀ c ∈ vs, c.scalar = true) : ∀ u ∈ cvs, u.oneCell' = true := by
  intro u hu
  obtain ⟨i, hi⟩ := List.getElem?_of_mem hu
  obtain ⟨v, hv, hr⟩ := h.getV hi
  exact hr.one (hs v (List.mem_of_getElem? hv))
end
end Go.Awp

/- AWP, text 2: the abstract store, and what may change. -/
namespace Go.Awp
open Go

/-- A mutable thing: cells of a variable; or a slice that grows, all of it its own. -/
inductive Blk where
  | cells (t : TypeId) (cs : List V)
  | vec (t : TypeId) (s : Nat) (es : List V) (ver : Nat) (wr : Bool)
  deriving Inhabited

abbrev Store := List (Id × Blk)
abbrev Store.keys (σ : Store) : List Id := σ.map (·.1)

def BlkRel (E : Amb) (id : Id) : Blk → Prop
  | .cells t cs => ∃ b c, E.ι id = .cells b ∧ E.w.heap[b]? = some (.cells c t (0, 0)) ∧ RepL E cs c.toList ∧ (∀ c ∈ cs, c.scalar = true) ∧ ∀ o, ¬ E.I b o
  | .vec t s es ver wr => ∃ hv xs, E.ι id = .vec hv ver ∧ Owns E.w t s hv es.length xs ∧ RepL E (es.flatMap V.cells) xs ∧
      (∀ e ∈ es, e.cells.length = s ∧ e.ok) ∧ 0 < s ∧ ∀ b, hblk hv = some b → ∀ o, E.I b o → wr = false ∧ o < es.length * s

structure StoreRel (E : Amb) (σ : Store) : Prop where
  blk : ∀ id b, (id, b) ∈ σ → BlkRel E id b
  nodup : σ.keys.Nodup
  apart : ∀ i j, i ∈ σ.keys → j ∈ σ.keys → i ≠ j → ∀ b, (E.ι i).block = some b → (E.ι j).block ≠ some b
  imm : ∀ b o, E.I b o → b < E.w.heap.size
  fin : ∃ N, ∀ id : Id, N ≤ id.1 → E.ι id = .unborn

def Owned (E : Amb) (σ : Store) (b : Nat) : Prop := ∃ id, id ∈ σ.keys ∧ (E.ι id).block = some b

structure Grow (E : Amb) (σ : Store) (E' : Amb) (σ' : Store) : Prop where
  le : E.Le E'
  kept : ∀ b, b < E.w.heap.size → ¬ Owned E σ b → E'.w.heap[b]? = E.w.heap[b]?
  inew : ∀ b o, E'.I b o → E.I b o ∨ E.w.heap.size ≤ b ∨ Owned E σ b
  loc : ∀ id, id ∉ σ.keys → E.ι id ≠ .unborn → E'.ι id = E.ι id
  keys : ∀ id, id ∈ σ'.keys → id ∈ σ.keys ∨ E.ι id = .unborn
  own : ∀ b, Owned E' σ' b → E.w.heap.size ≤ b ∨ Owned E σ b
  os : E'.w.os = E.w.os
  tape : E'.w.tape = E.w.tape
  output : E'.w.output = E.w.output
  size : E.w.heap.size ≤ E'.w.heap.size

theorem Grow.refl (E : Amb) (σ : Store) : Grow E σ E σ :=
  ⟨Amb.Le.refl E, fun _ _ _ => rfl, fun _ _ h => .inl h, fun _ _ _ => rfl, fun _ h => .inl h, fun _ h => .inr h, rfl, rfl, rfl, Nat.le_refl _⟩

theorem Grow.trans {A B D : Amb} {s t u : Store} (h : Grow A s B t) (k : Grow B t D u) : Grow A s D u where
  le := h.le.trans k.le
  kept b hb ho := by
    rw [k.kept b (Nat.lt_of_lt_of_le hb h.size) fun o => (h.own b o).elim (by omega) ho, h.kept b hb ho]
  inew b o i := by
    rcases k.inew b o i with i | i | i
    · exact h.inew b o i
    · exact .inr (.inl (Nat.le_trans h.size i))
    · rcases h.own b i with i | i
      · exact .inr (.inl i)
      · exact .inr (.inr i)
  loc id hn hu := by
    have e := h.loc id hn hu
    rw [k.loc id (fun hk => (h.keys id hk).elim hn hu) (by rw [e]; exact hu), e]
  keys id hi := by
    rcases k.keys id hi with hi | hi
    · exact h.keys id hi
    · by_cases hu : A.ι id = .unborn
      · exact .inr hu
      · by_cases hm : id ∈ s.keys
        · exact .inl hm
        · rw [h.loc id hm hu] at hi; exact .inr hi
  own b ho := by
    rcases k.own b ho with i | i
    · exact .inl (Nat.le_trans h.size i)
    · exact h.own b i
  os := k.os.trans h.os
  tape := k.tape.trans h.tape
  output := k.output.trans h.output
  size := Nat.le_trans h.size k.size

/-- Less is left of the store. -/
theorem Grow.drop {A B : Amb} {s t t' : Store} (h : Grow A s B t) (ht : ∀ id, id ∈ t'.keys → id ∈ t.keys) : Grow A s B t' :=
  { h with keys := fun id hi => h.keys id (ht id hi), own := fun b ⟨id, hi, hb⟩ => h.own b ⟨id, ht id hi, hb⟩ }

theorem BlkRel.size {E : Amb} {id : Id} {k : Blk} (h : BlkRel E id k) {b : Nat} (hb : (E.ι id).block = some b) : b < E.w.heap.size := by
  cases k with
  | cells t cs =>
    obtain ⟨b', c, e, hh, _⟩ := h
    rw [e] at hb; simp [Loc.block] at hb; subst hb
    exact (Array.getElem?_eq_some_iff.1 hh).1
  | vec t s es ver wr =>
    obtain ⟨hv, xs, e, ho, _⟩ := h
    rw [e] at hb
    exact ho.lt hb

theorem BlkRel.born {E : Amb} {id : Id} {k : Blk} (h : BlkRel E id k) : E.ι id ≠ .unborn := by
  cases k with
  | cells t cs => obtain ⟨b', c, e, _⟩ := h; simp [e]
  | vec t s es ver wr => obtain ⟨hv, xs, e, _⟩ := h; simp [e]

theorem StoreRel.mem {E : Amb} {σ : Store} (h : StoreRel E σ) {id : Id} (hi : id ∈ σ.keys) : ∃ k, (id, k) ∈ σ ∧ BlkRel E id k := by
  obtain ⟨⟨i, k⟩, hk, rfl⟩ := List.mem_map.1 hi
  exact ⟨k, hk, h.blk _ _ hk⟩

theorem StoreRel.ownedLt {E : Amb} {σ : Store} (h : StoreRel E σ) {b : Nat} (ho : Owned E σ b) : b < E.w.heap.size := by
  obtain ⟨id, hi, hb⟩ := ho
  obtain ⟨k, _, hk⟩ := h.mem hi
  exact hk.size hb

/-- A block of the store that nobody touched. -/
theorem BlkRel.keep {E E' : Amb} {id : Id} {k : Blk} (h : BlkRel E id k) (le : E.Le E') (hι : E'.ι id = E.ι id)
    (hh : ∀ b, (E.ι id).block = some b → E'.w.heap[b]? = E.w.heap[b]?) (hI : ∀ b, (E.ι id).block = some b → ∀ o, E'.I b o → E.I b o) : BlkRel E' id k := by
  cases k with
  | cells t cs =>
    obtain ⟨b, c, e, hb, hr, hs, hi⟩ := h
    exact ⟨b, c, by rw [hι, e], by rw [hh b (by rw [e]; rfl), hb], hr.mono le, hs, fun o i => hi o (hI b (by rw [e]; rfl) o i)⟩
  | vec t s es ver wr =>
    obtain ⟨hv, xs, e, ho, hr, hs, h0, hi⟩ := h
    refine ⟨hv, xs, by rw [hι, e], ⟨ho.1, ?_⟩, hr.mono le, hs, h0, fun b hb o i => hi b hb o (hI b (by rw [e]; exact hb) o i)⟩
    rcases ho.2 with hn | ⟨g, cap, cur, hb, rfl, hg, rest⟩
    · exact .inl hn
    · exact .inr ⟨g, cap, cur, hb, rfl, by rw [hh g (by rw [e]; simp [Loc.block, hblk]; omega)]; exact hg, rest⟩

/-- Part of a store. -/
theorem StoreRel.part {E : Amb} {σ s : Store} (h : StoreRel E σ) (hs : ∀ x, x ∈ s → x ∈ σ) (hn : s.keys.Nodup) : StoreRel E s := by
  have hk : ∀ id, id ∈ s.keys → id ∈ σ.keys := fun id hi => by
    obtain ⟨x, hx, rfl⟩ := List.mem_map.1 hi
    exact List.mem_map.2 ⟨x, hs x hx, rfl⟩
  exact ⟨fun id b hb => h.blk id b (hs _ hb), hn, fun i j hi hj => h.apart i j (hk i hi) (hk j hj), h.imm, h.fin⟩

/-- What a step on part of the store leaves of the rest. -/
theorem frame {E E' : Amb} {σ s s' r : Store} (h : StoreRel E σ) (hs : ∀ x, x ∈ s → x ∈ σ) (hr : ∀ x, x ∈ r → x ∈ σ) (hd : ∀ id, id ∈ r.keys → id ∉ s.keys) (hrn : r.keys.Nodup)
    (h' : StoreRel E' s') (g : Grow E s E' s') : StoreRel E' (s' ++ r) ∧ Grow E σ E' (s' ++ r) := by
  have key : ∀ {t : Store}, (∀ x, x ∈ t → x ∈ σ) → ∀ id, id ∈ t.keys → id ∈ σ.keys := fun ht id hi => by
    obtain ⟨x, hx, rfl⟩ := List.mem_map.1 hi
    exact List.mem_map.2 ⟨x, ht x hx, rfl⟩
  have rb : ∀ id, id ∈ r.keys → ∃ k, BlkRel E id k := fun id hi => by obtain ⟨k, _, hk⟩ := h.mem (key hr id hi); exact ⟨k, hk⟩
  have rι : ∀ id, id ∈ r.keys → E'.ι id = E.ι id := fun id hi => by
    obtain ⟨k, hk⟩ := rb id hi
    exact g.loc id (hd id hi) hk.born
  have rown : ∀ id, id ∈ r.keys → ∀ b, (E.ι id).block = some b → ¬ Owned E s b := fun id hi b hb ⟨j, hj, hjb⟩ =>
    h.apart id j (key hr id hi) (key hs j hj) (fun e => hd id hi (e ▸ hj)) b hb hjb
  have rlt : ∀ id, id ∈ r.keys → ∀ b, (E.ι id).block = some b → b < E.w.heap.size := fun id hi b hb => by
    obtain ⟨k, hk⟩ := rb id hi
    exact hk.size hb
  have disj : ∀ id, id ∈ r.keys → ∀ b, (E.ι id).block = some b → ¬ Owned E' s' b := fun id hi b hb ho => by
    rcases g.own b ho with i | i
    · have := rlt id hi b hb; omega
    · exact rown id hi b hb i
  constructor
  · refine ⟨fun id k hk => ?_, ?_, ?_, h'.imm, h'.fin⟩
    · rcases List.mem_append.1 hk with hk | hk
      · exact h'.blk id k hk
      · have hi : id ∈ r.keys := List.mem_map.2 ⟨_, hk, rfl⟩
        refine (h.blk id k (hr _ hk)).keep g.le (rι id hi) (fun b hb => g.kept b (rlt id hi b hb) (rown id hi b hb)) fun b hb o i => ?_
        rcases g.inew b o i with i | i | i
        · exact i
        · have := rlt id hi b hb; omega
        · exact absurd i (rown id hi b hb)
    · rw [show (s' ++ r).keys = s'.keys ++ r.keys from List.map_append]
      refine List.nodup_append.2 ⟨h'.nodup, hrn, fun i hi j hj e => ?_⟩
      subst e
      rcases g.keys i hi with k | k
      · exact hd i hj k
      · obtain ⟨kk, hk⟩ := rb i hj; exact hk.born k
    · intro i j hi hj hne b hb hjb
      rw [show (s' ++ r).keys = s'.keys ++ r.keys from List.map_append] at hi hj
      rcases List.mem_append.1 hi with hi | hi <;> rcases List.mem_append.1 hj with hj | hj
      · exact h'.apart i j hi hj hne b hb hjb
      · rw [rι j hj] at hjb; exact disj j hj b hjb ⟨i, hi, hb⟩
      · rw [rι i hi] at hb; exact disj i hi b hb ⟨j, hj, hjb⟩
      · rw [rι i hi] at hb; rw [rι j hj] at hjb; exact h.apart i j (key hr i hi) (key hr j hj) hne b hb hjb
  · have up : ∀ b, Owned E s b → Owned E σ b := fun b ⟨id, hi, hb⟩ => ⟨id, key hs id hi, hb⟩
    refine ⟨g.le, fun b hb ho => g.kept b hb fun o => ho (up b o), fun b o i => ?_, fun id hn => g.loc id fun hk => hn (key hs id hk), fun id hi => ?_, fun b ho => ?_, g.os, g.tape, g.output, g.size⟩
    · rcases g.inew b o i with i | i | i
      · exact .inl i
      · exact .inr (.inl i)
      · exact .inr (.inr (up b i))
    · rw [show (s' ++ r).keys = s'.keys ++ r.keys from List.map_append] at hi
      rcases List.mem_append.1 hi with hi | hi
      · exact (g.keys id hi).imp (key hs id) (fun h => h)
      · exact .inl (key hr id hi)
    · obtain ⟨id, hi, hb⟩ := ho
      rw [show (s' ++ r).keys = s'.keys ++ r.keys from List.map_append] at hi
      rcases List.mem_append.1 hi with hi | hi
      · exact (g.own b ⟨id, hi, hb⟩).imp (fun h => h) (up b)
      · rw [rι id hi] at hb; exact .inr ⟨id, key hr id hi, hb⟩
end Go.Awp

/- AWP, text 3: operations that leave the world alone. -/
namespace Go.Awp
open Go

/-! ### Types -/
def sizeT (P : Program) (t : TypeId) : Option Nat := (P.info? t).map (·.size)
def aggT (P : Program) (t : TypeId) : Option Bool := (P.underlying t).map TypeDesc.isRow
def fldT (P : Program) (t : TypeId) (f : Nat) : Option (Nat × TypeId) :=
  (P.underlying t).bind fun | .struct fs => (fs[f]?).map fun x => (x.offset, x.type) | _ => none
def elemT (P : Program) (t : TypeId) : Option TypeId := (P.underlying t).bind fun | .slice e => some e | _ => none
def arrT (P : Program) (t : TypeId) : Option (Nat × TypeId) := (P.underlying t).bind fun | .array n e => some (n, e) | _ => none
/-- A name for what a type is at bottom. -/
inductive Sort' | bool | int (k : IntKind) | float (k : FloatKind) | cplx (k : FloatKind) | str | ptr | slice | map | func | struct | array | iface | tuple | other
  deriving DecidableEq
def sortT (P : Program) (t : TypeId) : Sort' :=
  match P.underlying t with
  | some .bool => .bool | some (.int k) => .int k | some (.float k) => .float k | some (.complex k) => .cplx k | some .string => .str
  | some (.pointer _) => .ptr | some (.slice _) => .slice | some (.map _ _) => .map | some (.func ..) => .func | some (.struct _) => .struct
  | some (.array _ _) => .array | some (.interface _) => .iface | some (.tuple _) => .tuple | _ => .other

section
variable {P : Program}
theorem elemT_spec {t e : TypeId} (h : elemT P t = some e) : P.underlying t = some (.slice e) := by
  unfold elemT at h
  cases hu : P.underlying t with
  | none => simp [hu] at h
  | some d => cases d <;> simp [hu] at h; subst h; rfl

theorem arrT_spec {t e : TypeId} {n : Nat} (h : arrT P t = some (n, e)) : P.underlying t = some (.array n e) := by
  unfold arrT at h
  cases hu : P.underlying t with
  | none => simp [hu] at h
  | some d => cases d <;> simp [hu] at h; obtain ⟨rfl, rfl⟩ := h; rfl

theorem fldT_spec {t f o u : Nat} (h : fldT P t f = some (o, u)) : ∃ fs x, P.underlying t = some (.struct fs) ∧ fs[f]? = some x ∧ x.offset = o ∧ x.type = u := by
  unfold fldT at h
  cases hu : P.underlying t with
  | none => simp [hu] at h
  | some d =>
    cases d <;> simp [hu] at h
    rename_i fs
    obtain ⟨x, hx, rfl, rfl⟩ := h
    exact ⟨fs, x, rfl, hx, rfl, rfl⟩

theorem run_sizeOf' {t n : Nat} (h : sizeT P t = some n) (w : World) : (sizeOf t).run P w = .ok n w := by
  unfold sizeT at h
  cases hq : P.info? t with
  | none => simp [hq] at h
  | some i => simp [hq] at h; simp [sizeOf, typeInfo, hq, h]

theorem run_isAgg' {t : Nat} {b : Bool} (h : aggT P t = some b) (w : World) : (isAgg t).run P w = .ok b w := by
  unfold aggT at h
  cases hu : P.underlying t with
  | none => simp [hu] at h
  | some d =>
    simp [hu] at h
    unfold isAgg
    rw [Sem.run_bind, run_underlying hu w]
    cases d <;> simp_all
end

/-! ### Parts of values -/
/-- The value of type t at an offset of cells. -/
def partV (P : Program) (t : TypeId) (cs : List V) (off : Nat) : Option V :=
  match aggT P t, sizeT P t with
  | some true, some n => if off + n ≤ cs.length then some (.agg ((cs.drop off).take n)) else none
  | some false, some _ => cs[off]?
  | _, _ => none

/-- Has it the shape of a variable of type t? -/
def fitV (P : Program) (t : TypeId) (v : V) : Bool :=
  match aggT P t, sizeT P t with
  | some true, some n => (match v with | .agg cs => cs.length == n | _ => false)
  | some false, some n => n == 1 && v.scalar
  | _, _ => false

/-- What stands at an address. -/
def Reads (E : Amb) (b o : Nat) (cs : List V) : Prop :=
  ∃ cvs, RepL E cs cvs ∧ (∀ c ∈ cs, c.scalar = true) ∧ ∀ j u, cvs[j]? = some u → E.w.cell? ⟨b, o + j, none⟩ = some u

section
variable {P : Program} {E : Amb}

theorem reads_load {t : TypeId} {b o off : Nat} {cs : List V} {v : V} (h : Reads E b o cs) (hp : partV P t cs off = some v) :
    ∃ cv, (Instr.loadAt t (.pointer (some ⟨b, o + off, none⟩))).run P E.w = .ok cv E.w ∧ Rep E v cv := by
  obtain ⟨cvs, hr, hs, hc⟩ := h
  unfold partV at hp
  split at hp
  · rename_i n ha hz
    split at hp
    · rename_i hle
      cases hp
      have hlen := hr.length
      refine ⟨.agg ((cvs.drop off).take n).toArray, ?_, .agg ((hr.drop off).take n) fun c hm => hs c (List.mem_of_mem_drop (List.mem_of_mem_take hm))⟩
      have hl : ((cvs.drop off).take n).length = n := by simp; omega
      have := run_loadCells_list (P := P) E.w ⟨b, o + off, none⟩ ((cvs.drop off).take n) (fun j u hj => by
        rw [Addr.add_mid]
        have hj' : cvs[off + j]? = some u := by
          rw [List.getElem?_take] at hj
          split at hj
          · rw [List.getElem?_drop] at hj; exact hj
          · simp at hj
        have := hc _ _ hj'
        rw [show o + off + j = o + (off + j) by omega]; exact this)
      rw [hl] at this
      simp [Instr.loadAt, Instr.sureAddr, loadVar, run_isAgg' ha, run_sizeOf' hz, this]
    · cases hp
  · rename_i n ha hz
    obtain ⟨cv, hcv, hrep⟩ := hr.get hp
    refine ⟨cv, ?_, hrep⟩
    have h1 := hc _ _ hcv
    simp [Instr.loadAt, Instr.sureAddr, loadVar, run_isAgg' ha, load, Sem.run, h1]
  · cases hp

theorem Rep.reads {v : V} {a : Option Addr} (h : Rep E (.rptr v) (.pointer a)) : ∃ b o, a = some ⟨b, o, none⟩ ∧ Reads E b o v.cells ∧ ∀ j, j < v.cells.length → E.I b (o + j) := by
  cases h with
  | @rptr _ cvs b o hl hw hc =>
    refine ⟨b, o, rfl, ⟨cvs, hl, hw, fun j u hj => (hc j u hj).1⟩, fun j hj => ?_⟩
    have hj' : j < cvs.length := by rw [hl.length]; exact hj
    exact (hc j _ (List.getElem?_eq_getElem hj')).2

theorem Rep.rptr_inv {v : V} {cv : Value} (h : Rep E (.rptr v) cv) : ∃ a, cv = .pointer a := by cases h; exact ⟨_, rfl⟩

theorem Rep.of_reads {v : V} {b o : Nat} (h : Reads E b o v.cells) (hI : ∀ j, j < v.cells.length → E.I b (o + j)) : Rep E (.rptr v) (.pointer (some ⟨b, o, none⟩)) := by
  obtain ⟨cvs, hl, hs, hc⟩ := h
  refine .rptr hl hs fun j u hj => ⟨hc j u hj, hI j ?_⟩
  rw [← hl.length]
  exact (List.getElem?_eq_some_iff.1 hj).1

theorem fitV_part {t : TypeId} {v : V} (h : fitV P t v = true) : partV P t v.cells 0 = some v := by
  unfold fitV at h
  unfold partV
  split at h
  · rename_i n ha hz
    cases v <;> simp at h
    rename_i cs
    subst h
    simp [V.cells]
  · rename_i n ha hz
    cases v <;> simp [V.scalar] at h <;> simp [V.cells]
  · cases h

theorem partV_cells {t : TypeId} {cs : List V} {off n : Nat} {v : V} (h : partV P t cs off = some v) (hn : sizeT P t = some n) (h1 : aggT P t = some false → n = 1)
    (hs : ∀ c ∈ cs, c.scalar = true) : v.cells = (cs.drop off).take n ∧ off + n ≤ cs.length := by
  unfold partV at h
  split at h
  · rename_i m ha hz
    rw [hn] at hz; cases hz
    split at h
    · rename_i hle; cases h; exact ⟨rfl, hle⟩
    · cases h
  · rename_i m ha hz
    have := h1 ha
    subst this
    obtain ⟨hlt, he⟩ := List.getElem?_eq_some_iff.1 h
    have hsc := hs v (List.mem_of_getElem? h)
    refine ⟨?_, by omega⟩
    rw [List.drop_eq_getElem_cons hlt, he]
    cases v <;> simp [V.cells, V.scalar] at hsc ⊢
  · cases h

theorem Reads.part {b o off n : Nat} {cs : List V} (h : Reads E b o cs) : Reads E b (o + off) ((cs.drop off).take n) := by
  obtain ⟨cvs, hl, hs, hc⟩ := h
  refine ⟨(cvs.drop off).take n, (hl.drop off).take n, fun c hm => hs c (List.mem_of_mem_drop (List.mem_of_mem_take hm)), fun j u hj => ?_⟩
  rw [List.getElem?_take] at hj
  split at hj
  · rw [List.getElem?_drop] at hj
    rw [show o + off + j = o + (off + j) by omega]
    exact hc _ _ hj
  · simp at hj

/-- One element's cells out of a row's. -/
theorem flat_part {es : List V} {s i : Nat} {e : V} (hu : ∀ e ∈ es, e.cells.length = s) (hi : es[i]? = some e) :
    ((es.flatMap V.cells).drop (i * s)).take s = e.cells ∧ i * s + s ≤ (es.flatMap V.cells).length := by
  induction es generalizing i with
  | nil => simp at hi
  | cons x es ih =>
    have hx := hu x (by simp)
    have hes : ∀ e ∈ es, e.cells.length = s := fun e he => hu e (by simp [he])
    cases i with
    | zero =>
      simp at hi; subst hi
      simp only [List.flatMap_cons, Nat.zero_mul, List.drop_zero, List.length_append]
      refine ⟨by rw [← hx]; exact List.take_left, by omega⟩
    | succ i =>
      simp at hi
      obtain ⟨h1, h2⟩ := ih hes hi
      simp only [List.flatMap_cons, List.length_append]
      rw [show (i + 1) * s = x.cells.length + i * s by rw [hx, Nat.succ_mul, Nat.add_comm], List.drop_append]
      simp only [Nat.add_sub_cancel_left]
      rw [show x.cells.drop (x.cells.length + i * s) = [] from List.drop_eq_nil_of_le (by omega)]
      exact ⟨by simpa using h1, by omega⟩

theorem flat_length {es : List V} {s : Nat} (hu : ∀ e ∈ es, e.cells.length = s) : (es.flatMap V.cells).length = es.length * s := by
  induction es with
  | nil => simp
  | cons x es ih =>
    simp only [List.flatMap_cons, List.length_append, List.length_cons]
    rw [ih fun e he => hu e (by simp [he]), hu x (by simp), Nat.succ_mul, Nat.add_comm]

theorem flat_take {es : List V} {s : Nat} (hu : ∀ e ∈ es, e.cells.length = s) (n : Nat) : (es.take n).flatMap V.cells = (es.flatMap V.cells).take (n * s) := by
  induction es generalizing n with
  | nil => simp
  | cons x es ih =>
    have hx := hu x (by simp)
    have hes : ∀ e ∈ es, e.cells.length = s := fun e he => hu e (by simp [he])
    cases n with
    | zero => simp
    | succ n =>
      simp only [List.take_succ_cons, List.flatMap_cons]
      rw [ih hes n, List.take_append, show (n + 1) * s = x.cells.length + n * s by rw [hx, Nat.succ_mul, Nat.add_comm]]
      simp only [Nat.add_sub_cancel_left]
      rw [show x.cells.take (x.cells.length + n * s) = x.cells from List.take_of_length_le (by omega)]

theorem flat_drop {es : List V} {s : Nat} (hu : ∀ e ∈ es, e.cells.length = s) (n : Nat) : (es.drop n).flatMap V.cells = (es.flatMap V.cells).drop (n * s) := by
  induction es generalizing n with
  | nil => simp
  | cons x es ih =>
    have hx := hu x (by simp)
    have hes : ∀ e ∈ es, e.cells.length = s := fun e he => hu e (by simp [he])
    cases n with
    | zero => simp
    | succ n =>
      simp only [List.drop_succ_cons, List.flatMap_cons]
      rw [ih hes n, List.drop_append, show (n + 1) * s = x.cells.length + n * s by rw [hx, Nat.succ_mul, Nat.add_comm]]
      simp only [Nat.add_sub_cancel_left]
      rw [show x.cells.drop (x.cells.length + n * s) = [] from List.drop_eq_nil_of_le (by omega)]
      simp
end
end Go.Awp

/- AWP, text 4: the operations that leave the world alone, as one function on trees. -/
namespace Go.Awp
open Go

def bitI (op : BinOp) (k : IntKind) (a b : Int) : Int :=
  let x := BitVec.ofInt k.bits a
  let y := BitVec.ofInt k.bits b
  k.wrap (match op with | .and => x &&& y | .or => x ||| y | .xor => x ^^^ y | _ => x &&& ~~~y).toNat

/-- The fields of a struct that may be compared. -/
def cmpT (P : Program) (t : TypeId) : Option (List (Nat × TypeId)) :=
  match P.underlying t with
  | some (.struct fs) => if P.stoodInHeld t = false ∧ P.eqGuardType P.depth t = false ∧ fs.toList.all (·.name != "_") = true then some (fs.toList.map fun f => (f.offset, f.type)) else none
  | _ => none

def eqFs (P : Program) (f : TypeId → V → V → Option Bool) : List (Nat × TypeId) → List V → List V → Option Bool
  | [], _, _ => some true
  | (o, t) :: r, xs, ys => (partV P t xs o).bind fun a => (partV P t ys o).bind fun b => (f t a b).bind fun q => (eqFs P f r xs ys).map (q && ·)

def eqV (P : Program) : Nat → TypeId → V → V → Option Bool
  | 0, _, _, _ => none
  | d + 1, t, a, b => match a, b with
    | .int k x, .int k' y => match sortT P t with
      | .int _ => if k = k' then some (x == y) else none
      | _ => none
    | .bool x, .bool y => if sortT P t = .bool then some (x == y) else none
    | .str x, .str y => if sortT P t = .str then some (x.toList == y.toList) else none
    | .agg xs, .agg ys => (cmpT P t).bind fun fs => eqFs P (eqV P d) fs xs ys
    | _, _ => none

def binV (P : Program) (op : BinOp) (t : TypeId) : V → V → Option V
  | .int k a, .int k' b =>
    match op with
    | .shl => if 0 ≤ b then some (.int k (k.wrap (a * 2 ^ (min b.toNat k.bits)))) else none
    | .shr => if 0 ≤ b then some (.int k (a.fdiv (2 ^ (min b.toNat k.bits)))) else none
    | .add => if k = k' then some (.int k (k.wrap (a + b))) else none
    | .sub => if k = k' then some (.int k (k.wrap (a - b))) else none
    | .mul => if k = k' then some (.int k (k.wrap (a * b))) else none
    | .quo => if k = k' then (if b = 0 then none else some (.int k (k.wrap (a.tdiv b)))) else none
    | .rem => if k = k' then (if b = 0 then none else some (.int k (a.tmod b))) else none
    | .and => if k = k' then some (.int k (bitI .and k a b)) else none
    | .or => if k = k' then some (.int k (bitI .or k a b)) else none
    | .xor => if k = k' then some (.int k (bitI .xor k a b)) else none
    | .andNot => if k = k' then some (.int k (bitI .andNot k a b)) else none
    | .eql => if k = k' then some (.bool (a == b)) else none
    | .neq => if k = k' then some (.bool (a != b)) else none
    | .lss => if k = k' then some (.bool (a < b)) else none
    | .leq => if k = k' then some (.bool (a ≤ b)) else none
    | .gtr => if k = k' then some (.bool (a > b)) else none
    | .geq => if k = k' then some (.bool (a ≥ b)) else none
  | .str a, .str b =>
    match op with
    | .add => if a.size + b.size ≤ 9223372036854775807 then some (.str (a ++ b)) else none
    | .eql => some (.bool (a.toList == b.toList))
    | .neq => some (.bool !(a.toList == b.toList))
    | .lss => some (.bool (Op.bytesLess a.toList b.toList))
    | _ => none
  | .bool a, .bool b =>
    match sortT P t, op with
    | .bool, .eql => some (.bool (a == b))
    | .bool, .neq => some (.bool !(a == b))
    | _, _ => none
  | .iface _ _, .nili =>
    match sortT P t, op with
    | .iface, .eql => some (.bool false)
    | .iface, .neq => some (.bool true)
    | _, _ => none
  | .agg xs, .agg ys =>
    match op with
    | .eql => (eqV P 4 t (.agg xs) (.agg ys)).map .bool
    | .neq => (eqV P 4 t (.agg xs) (.agg ys)).map fun r => .bool !r
    | _ => none
  | _, _ => none

def unV (op : UnOp) : V → Option V
  | .int k n => match op with | .neg => some (.int k (k.wrap (0 - n))) | .xor => some (.int k (bitI .xor k (if k.signed then -1 else k.max) n)) | _ => none
  | .bool b => match op with | .not => some (.bool !b) | _ => none
  | _ => none

def convV (P : Program) (src dst : TypeId) : V → Option V
  | .int _ n => match sortT P src, sortT P dst with | .int _, .int k => some (.int k (k.wrap n)) | _, _ => none
  | .str s => match sortT P src, sortT P dst with | .str, .str => some (.str s) | _, _ => none
  | _ => none

/-- A built-in function that only looks. -/
def lookV (P : Program) (b : Builtin) (ats : List TypeId) (vs : List V) : Option V :=
  match b, ats, vs with
  | .len, [t], [.slice es] => if sortT P t = .slice then some (.int .i64 es.length) else none
  | .len, [t], [.snil] => if sortT P t = .slice then some (.int .i64 0) else none
  | .len, [t], [.str s] => if sortT P t = .str then some (.int .i64 s.size) else none
  | .max, _, [.int k a, .int _ b] => some (.int k (if b > a then b else a))
  | .min, _, [.int k a, .int _ b] => some (.int k (if b < a then b else a))
  | _, _, _ => none

def indexV (P : Program) (t : TypeId) : V → V → Option V
  | .slice es, .int _ i =>
    (elemT P t).bind fun el => (sizeT P el).bind fun n =>
      if 0 ≤ i then (es[i.toNat]?).bind fun e => if e.cells.length = n then some (.rptr e) else none else none
  | .rptr (.agg cs), .int _ i =>
    (arrT P t).bind fun (m, el) => (sizeT P el).bind fun n => if 0 ≤ i ∧ i < m then (partV P el cs (i.toNat * n)).map .rptr else none
  | .ptr id off, .int _ i =>
    (arrT P t).bind fun (m, el) => (sizeT P el).bind fun n => if 0 ≤ i ∧ i < m then some (.ptr id (off + i.toNat * n)) else none
  | _, _ => none

def atV (P : Program) (t : TypeId) : V → V → Option V
  | .agg cs, .int _ i => (arrT P t).bind fun (m, el) => (sizeT P el).bind fun n => if 0 ≤ i ∧ i < m then partV P el cs (i.toNat * n) else none
  | .str s, .int _ i => if sortT P t = .str ∧ 0 ≤ i then (s[i.toNat]?).map fun b => .int .u8 b.toNat else none
  | _, _ => none

def faddrV (P : Program) (s f : Nat) : V → Option V
  | .rptr (.agg cs) => (fldT P s f).bind fun (o, t) => (sizeT P t).bind fun n => if n = 0 then none else (partV P t cs o).map .rptr
  | .ptr id off => (fldT P s f).bind fun (o, t) => (sizeT P t).bind fun n => if n = 0 then none else some (.ptr id (off + o))
  | .eptr id ver z i off => (fldT P s f).bind fun (o, t) => (sizeT P t).bind fun n => if n = 0 then none else some (.eptr id ver z i (off + o))
  | _ => none

/-- Bounds of a slice expression: none given is 'from the begin', 'to the end'. -/
def bndV (d : Nat) : Option (Option V) → Option Nat
  | none => some d
  | some (some (.int _ i)) => if 0 ≤ i then some i.toNat else none
  | _ => none

def cut0 (lo hi mx : Option (Option V)) : Option V :=
  if mx.isSome ∧ hi.isNone then none else
  (bndV 0 lo).bind fun l => (bndV 0 hi).bind fun h => (bndV 0 mx).bind fun m => if l = 0 ∧ h = 0 ∧ m = 0 then some .snil else none

def cutS (es : List V) (lo hi : Option (Option V)) : Option V :=
  (bndV 0 lo).bind fun l => (bndV es.length hi).bind fun h => if l ≤ h ∧ h ≤ es.length then some (.slice ((es.drop l).take (h - l))) else none

def cutB (s : ByteArray) (lo hi : Option (Option V)) : Option V :=
  (bndV 0 lo).bind fun l => (bndV s.size hi).bind fun h => if l ≤ h ∧ h ≤ s.size then some (.str (s.extract l h)) else none

def cutV (P : Program) (t : TypeId) (x : Option V) (lo hi mx : Option (Option V)) : Option V :=
  match x with
  | some (.slice es) => (elemT P t).bind fun el => (sizeT P el).bind fun n => if es.all (·.cells.length == n) = true then (if mx.isNone then cutS es lo hi else cut0 lo hi mx) else none
  | some .snil => (elemT P t).bind fun el => (sizeT P el).bind fun _ => cut0 lo hi mx
  | some (.str s) => if sortT P t = .str ∧ mx.isNone then cutB s lo hi else none
  | _ => none

def allV (lk : Operand → Option V) : List Operand → Option (List V)
  | [] => some []
  | x :: xs => (lk x).bind fun v => (allV lk xs).bind fun vs => some (v :: vs)

def pureOp (P : Program) (lk : Operand → Option V) : Op → Option V
  | .move x | .assign x => lk x
  | .pick c a b => (lk c).bind fun | .bool c => if c then lk a else lk b | _ => none
  | .binOp op t x y _ => (lk x).bind fun a => (lk y).bind fun b => binV P op t a b
  | .unOp op _ x => (lk x).bind (unV op)
  | .convert src dst x => (lk x).bind (convV P src dst)
  | .makeFunc fn first cap => (allV lk first.toList).bind fun f => (allV lk cap.toList).bind fun c => some (.func fn f c)
  | .makeInterface t x => if sortT P t = .iface ∨ sortT P t = .other then none else (lk x).map (.iface t)
  | .nilCheck x => (lk x).bind fun | .rptr v => some (.rptr v) | .ptr i o => some (.ptr i o) | .eptr i v z k o => some (.eptr i v z k o) | .func (.func f) a b => some (.func (.func f) a b) | _ => none
  | .fieldAddr s x f => (lk x).bind (faddrV P s f)
  | .field s x f => (lk x).bind fun | .agg cs => (fldT P s f).bind fun (o, t) => partV P t cs o | _ => none
  | .indexAddr t x i => (lk x).bind fun a => (lk i).bind fun b => indexV P t a b
  | .index t x i => (lk x).bind fun a => (lk i).bind fun b => atV P t a b
  | .extract x i => (lk x).bind fun | .tup vs => vs[i]? | _ => none
  | .load t x => (lk x).bind fun | .rptr v => if fitV P t v then some v else none | _ => none
  | .slice t x lo hi mx => cutV P t (lk x) (lo.map lk) (hi.map lk) (mx.map lk)
  | .call c => match c.callee with
    | .builtin b => (allV lk c.args.toList).bind fun vs => lookV P b c.argTypes.toList vs
    | _ => none
  | _ => none

end Go.Awp

/- AWP, text 5: the pure operations' soundness. -/
namespace Go.Awp
open Go

section
variable {P : Program} {E : Amb}

theorem run_equal {d : Nat} (hd : Op.maxDepth = d + 1) {t : TypeId} {a b : Value} {r : Bool} {w : World}
    (h : (Op.equalIn (d + 1) t a b).run P w = .ok r w) : (Op.equal t a b).run P w = .ok r w := by
  unfold Op.equal; rw [hd]; exact h

theorem sortT_bool {t : TypeId} (h : sortT P t = .bool) : P.underlying t = some .bool := by
  unfold sortT at h; split at h <;> simp_all
theorem sortT_slice {t : TypeId} (h : sortT P t = .slice) : ∃ e, P.underlying t = some (.slice e) := by
  unfold sortT at h; split at h <;> simp_all
theorem sortT_str {t : TypeId} (h : sortT P t = .str) : P.underlying t = some .string := by
  unfold sortT at h; split at h <;> simp_all
theorem sortT_int {t : TypeId} {k : IntKind} (h : sortT P t = .int k) : P.underlying t = some (.int k) := by
  unfold sortT at h; split at h <;> simp_all
theorem sortT_iface {t : TypeId} (h : sortT P t = .iface) : ∃ m, P.underlying t = some (.interface m) := by
  unfold sortT at h; split at h <;> simp_all

theorem bitI_run (op : BinOp) (k : IntKind) (a b : Int) (h : op = .and ∨ op = .or ∨ op = .xor ∨ op = .andNot) : Op.intBits op k a b = pure (.int k (bitI op k a b)) := by
  rcases h with rfl | rfl | rfl | rfl <;> rfl

theorem partV_rep {t : TypeId} {cs : List V} {cvs : List Value} {off : Nat} {v : V} (hr : RepL E cs cvs) (hs : ∀ c ∈ cs, c.scalar = true) (hp : partV P t cs off = some v) (w : World) :
    ∃ cv, (part t cvs.toArray off).run P w = .ok cv w ∧ Rep E v cv := by
  unfold partV at hp
  split at hp
  · rename_i n ha hz
    split at hp
    · rename_i hle
      cases hp
      refine ⟨.agg ((cvs.drop off).take n).toArray, ?_, .agg ((hr.drop off).take n) fun c hm => hs c (List.mem_of_mem_drop (List.mem_of_mem_take hm))⟩
      simp [part, run_isAgg' ha, run_sizeOf' hz]
    · cases hp
  · rename_i n ha hz
    obtain ⟨cv, hcv, hrep⟩ := hr.get hp
    refine ⟨cv, ?_, hrep⟩
    simp [part, run_isAgg' ha, hcv]
  · cases hp


theorem eqV_sound : ∀ (d e : Nat) (t : TypeId) (a b : V) (ca cb : Value) (r : Bool) (w : World), eqV P d t a b = some r → Rep E a ca → Rep E b cb → (Op.equalIn (d + e) t ca cb).run P w = .ok r w
  | 0, _, _, _, _, _, _, _, _, h, _, _ => by cases h
  | d + 1, e, t, a, b, ca, cb, r, w, h, ha, hb => by
    have ih := eqV_sound d e
    rw [show d + 1 + e = (d + e) + 1 by omega]
    unfold eqV at h
    split at h
    · cases ha; cases hb
      split at h
      · rename_i k hk
        split at h
        · rename_i e; subst e; cases h; exact run_equalIn_int w _ t _ k _ _ (sortT_int hk)
        · cases h
      · cases h
    · cases ha; cases hb
      split at h
      · rename_i hk; cases h; exact run_equalIn_bool' w _ t _ _ (sortT_bool hk)
      · cases h
    · cases ha; cases hb
      split at h
      · rename_i hk; cases h; exact run_equalIn_string w _ t _ _ (sortT_str hk)
      · cases h
    · rename_i xs ys
      cases ha with | agg hxs sxs =>
      cases hb with | agg hys sys =>
      obtain ⟨fs, hfs, hE⟩ := Option.bind_eq_some_iff.1 h
      clear h
      unfold cmpT at hfs
      split at hfs
      · rename_i fields hu
        split at hfs
        · rename_i hc
          obtain ⟨h1, _, h3⟩ := hc
          cases hfs
          have hf : P.fieldsOf t = fields := by simp [Program.fieldsOf, hu]
          rw [run_equalIn_struct w _ t _ _ (by rw [hf]; exact hu) h1, hf]
          have h := hE
          clear hE
          generalize fields.toList = l at h h3 ⊢
          clear hf hu
          induction l generalizing r with
          | nil => simp only [List.map_nil, eqFs, Option.some.injEq] at h; subst h; simp [Op.eqFields]
          | cons f l ihl =>
            simp only [List.all_cons, Bool.and_eq_true, bne_iff_ne, ne_eq] at h3
            simp only [List.map_cons, eqFs] at h
            obtain ⟨a, hpa, h⟩ := Option.bind_eq_some_iff.1 h
            obtain ⟨b, hpb, h⟩ := Option.bind_eq_some_iff.1 h
            obtain ⟨q, hq, h⟩ := Option.bind_eq_some_iff.1 h
            obtain ⟨rr, hrr, h⟩ := Option.map_eq_some_iff.1 h
            obtain ⟨cva, r1, p1⟩ := partV_rep hxs sxs hpa w
            obtain ⟨cvb, r2, p2⟩ := partV_rep hys sys hpb w
            have r3 := ih f.type a b cva cvb q w hq p1 p2
            rw [Op.eqFields, if_pos h3.1]
            simp only [Sem.run_bind, r1, r2, r3, Result.andThen_ok]
            cases q
            · have h : (false && rr) = r := h
              rw [Bool.false_and] at h; subst h; simp
            · have h : (true && rr) = r := h
              rw [Bool.true_and] at h; subst h
              simpa using ihl rr hrr h3.2
        · cases hfs
      · cases hfs
    · cases h

theorem binV_sound {op : BinOp} {t : TypeId} {x y : Operand} {a b v : V} {ca cb : Value} (h : binV P op t a b = some v) (ha : Rep E a ca) (hb : Rep E b cb) (w : World) :
    ∃ cv, (do eqGuard op t x y ca cb; binOp op t ca cb : Sem Value).run P w = .ok cv w ∧ Rep E v cv := by
  unfold binV at h
  split at h
  · cases ha; cases hb
    rename_i k a k' b
    rw [eqGuard_at_int]
    simp only [Sem.run_bind, Sem.run_pure, Result.andThen_ok]
    cases op <;> simp only at h
    case shl =>
      split at h <;> cases h
      rename_i h0
      refine ⟨_, ?_, .int _ _⟩
      simp only [binOp, Op.shift]
      rw [if_neg (by omega)]
      rfl
    case shr =>
      split at h <;> cases h
      rename_i h0
      refine ⟨_, ?_, .int _ _⟩
      simp only [binOp, Op.shift]
      rw [if_neg (by omega)]
      rfl
    case quo =>
      split at h
      · subst_vars
        split at h <;> cases h
        rename_i h0
        refine ⟨_, ?_, .int _ _⟩
        simp [binOp, Op.intDiv, h0]
      · cases h
    case rem =>
      split at h
      · subst_vars
        split at h <;> cases h
        rename_i h0
        refine ⟨_, ?_, .int _ _⟩
        simp [binOp, Op.intDiv, h0]
      · cases h
    all_goals
      split at h
      · subst_vars; cases h
        refine ⟨_, ?_, by constructor⟩
        first
          | (simp [binOp, Op.intArith]; done)
          | (simp [binOp, Op.intCmp]; done)
          | (simp only [binOp]; rw [if_neg (by simp)]; rfl)
      · cases h
  · cases ha; cases hb
    rw [eqGuard_at_string]
    simp only [Sem.run_bind, Sem.run_pure, Result.andThen_ok]
    split at h
    · split at h <;> cases h
      rename_i hs
      refine ⟨_, ?_, .str _⟩
      simp only [binOp, Op.stringOp]
      rw [if_neg (by simp only [IntKind.max_i64]; omega)]
      rfl
    all_goals first
      | cases h
      | skip
    all_goals exact ⟨_, rfl, by constructor⟩
  · rename_i a' b'
    cases ha; cases hb
    rw [eqGuard_at_bool]
    simp only [Sem.run_bind, Sem.run_pure, Result.andThen_ok]
    split at h
    · rename_i hs
      cases h
      refine ⟨_, ?_, .bool _⟩
      simp only [binOp, Sem.run_bind]
      rw [run_equal (r := a' == b') rfl (by unfold Op.equalIn; simp [run_underlying (sortT_bool hs)])]
      rfl
    · rename_i hs
      cases h
      refine ⟨_, ?_, .bool _⟩
      simp only [binOp, Sem.run_bind]
      rw [run_equal (r := a' == b') rfl (by unfold Op.equalIn; simp [run_underlying (sortT_bool hs)])]
      rfl
    · cases h
  · cases ha; cases hb
    rw [eqGuard_at_iface]
    simp only [Sem.run_bind, Sem.run_pure, Result.andThen_ok]
    split at h
    · rename_i hs
      obtain ⟨m, hm⟩ := sortT_iface hs
      cases h
      refine ⟨_, ?_, .bool _⟩
      simp only [binOp, Sem.run_bind]
      rw [run_equal (r := false) rfl (by unfold Op.equalIn; simp [run_underlying hm])]
      rfl
    · rename_i hs
      obtain ⟨m, hm⟩ := sortT_iface hs
      cases h
      refine ⟨_, ?_, .bool _⟩
      simp only [binOp, Sem.run_bind]
      rw [run_equal (r := false) rfl (by unfold Op.equalIn; simp [run_underlying hm])]
      rfl
    · cases h
  · rename_i xs ys
    have hg : ∀ {r : Bool}, eqV P 4 t (.agg xs) (.agg ys) = some r → P.eqGuardType P.depth t = false := fun {r} hr => by
      unfold eqV at hr
      obtain ⟨fs, hfs, _⟩ := Option.bind_eq_some_iff.1 hr
      unfold cmpT at hfs
      split at hfs
      · split at hfs
        · rename_i hc; exact hc.2.1
        · cases hfs
      · cases hfs
    split at h
    · obtain ⟨r, hr, rfl⟩ := Option.map_eq_some_iff.1 h
      have := eqV_sound 4 9996 t _ _ _ _ r w hr ha hb
      cases ha; cases hb
      refine ⟨_, ?_, .bool r⟩
      rw [Sem.run_bind, run_eqGuard_agg w _ t _ _ _ _ (hg hr)]
      simp only [Result.andThen_ok]
      rw [run_eql_struct, this]
      rfl
    · obtain ⟨r, hr, rfl⟩ := Option.map_eq_some_iff.1 h
      have := eqV_sound 4 9996 t _ _ _ _ r w hr ha hb
      cases ha; cases hb
      refine ⟨_, ?_, .bool (!r)⟩
      rw [Sem.run_bind, run_eqGuard_agg w _ t _ _ _ _ (hg hr)]
      simp only [Result.andThen_ok]
      rw [run_neq_struct, this]
      rfl
    · cases h
  · cases h

theorem unV_sound {op : UnOp} {a v : V} {ca : Value} (h : unV op a = some v) (ha : Rep E a ca) (w : World) : ∃ cv, (Op.unary op ca).run P w = .ok cv w ∧ Rep E v cv := by
  unfold unV at h
  split at h
  · cases ha
    split at h
    · cases h; exact ⟨.int _ _, by simp only [Op.unary, Op.intArith, Sem.run_pure], .int _ _⟩
    · cases h; exact ⟨_, by simp only [Op.unary]; rfl, by constructor⟩
    · cases h
  · cases ha
    split at h
    · cases h; exact ⟨_, by simp [Op.unary]; rfl, by constructor⟩
    · cases h
  · cases h

theorem convV_sound {s d : TypeId} {a v : V} {ca : Value} (h : convV P s d a = some v) (ha : Rep E a ca) (w : World) : ∃ cv, (convert s d ca).run P w = .ok cv w ∧ Rep E v cv := by
  unfold convV at h
  split at h
  · cases ha
    split at h
    · rename_i k' k h1 h2
      cases h
      exact ⟨_, by simp [convert, run_underlying (sortT_int h1), run_underlying (sortT_int h2), Conv.intToInt]; rfl, by constructor⟩
    · cases h
  · cases ha
    split at h
    · rename_i h1 h2
      cases h
      exact ⟨_, by simp [convert, run_underlying (sortT_str h1), run_underlying (sortT_str h2)]; rfl, by constructor⟩
    · cases h
  · cases h

theorem Rep.slice_inv {es : List V} {cv : Value} (h : Rep E (.slice es) cv) : ∃ a c, cv = .slice a es.length c ∧ es.length ≤ c := by
  cases h with
  | slice0 => exact ⟨_, _, rfl, by simp⟩
  | slice _ _ _ hc => exact ⟨_, _, rfl, hc⟩

theorem lookV_sound {b : Builtin} {ats : List TypeId} {ty : TypeId} {vs : List V} {cvs : List Value} {v : V} (h : lookV P b ats vs = some v) (hr : RepL E vs cvs) (w : World) :
    ∃ cv, (∀ cs, (builtin b ats.toArray ty cs cvs.toArray).run P w = .ok (.value cv) w) ∧ Rep E v cv := by
  unfold lookV at h
  split at h
  · cases hr with | cons h1 t => cases t with | nil =>
    split at h <;> cases h
    rename_i hs
    obtain ⟨e, he⟩ := sortT_slice hs
    obtain ⟨a, c, rfl, _⟩ := h1.slice_inv
    exact ⟨_, fun cs => by simp [builtin, Builtin.len_, run_underlying he]; rfl, .int _ _⟩
  · cases hr with | cons h1 t => cases t with | nil =>
    split at h <;> cases h
    rename_i hs
    obtain ⟨e, he⟩ := sortT_slice hs
    cases h1
    exact ⟨.int .i64 0, fun cs => by simp [builtin, Builtin.len_, run_underlying he, goInt], .int _ _⟩
  · cases hr with | cons h1 t => cases t with | nil =>
    split at h <;> cases h
    rename_i hs
    cases h1
    exact ⟨_, fun cs => by simp only [builtin, Builtin.len_, Sem.run_bind, List.getElem?_toArray, List.getElem?_cons_zero, run_underlying (sortT_str hs), Result.andThen_ok, Sem.run_pure]; rfl, .int _ _⟩
  · cases hr with | cons h1 t => cases t with | cons h2 t => cases t with | nil =>
    cases h1; cases h2; cases h
    exact ⟨_, fun cs => by simp only [builtin, Builtin.max_, List.foldlM, Builtin.max2]; rfl, .int _ _⟩
  · cases hr with | cons h1 t => cases t with | cons h2 t => cases t with | nil =>
    cases h1; cases h2; cases h
    exact ⟨_, fun cs => by simp only [builtin, Builtin.min_, List.foldlM, Builtin.min2]; rfl, .int _ _⟩
  · cases h

/-! ### Addresses -/
theorem ptr_inv {id : Id} {off : Nat} {cv : Value} (h : Rep E (.ptr id off) cv) : ∃ b, E.ι id = .cells b ∧ cv = .pointer (some ⟨b, off, none⟩) := by
  cases h with | ptr h => exact ⟨_, h, rfl⟩

/-- Of a part of what can be read. -/
theorem reads_rptr {t : TypeId} {b o off : Nat} {cs : List V} {v : V} (h : Reads E b o cs) (hI : ∀ j, j < cs.length → E.I b (o + j)) (hp : partV P t cs off = some v) :
    Rep E (.rptr v) (.pointer (some ⟨b, o + off, none⟩)) := by
  obtain ⟨_, _, hs, _⟩ := id h
  have hcells : ∃ m, v.cells = (cs.drop off).take m ∧ off + m ≤ cs.length := by
    unfold partV at hp
    split at hp
    · rename_i m ha hz
      split at hp
      · cases hp; exact ⟨m, rfl, by assumption⟩
      · cases hp
    · obtain ⟨hlt, he⟩ := List.getElem?_eq_some_iff.1 hp
      have hsc := hs v (List.mem_of_getElem? hp)
      refine ⟨1, ?_, by omega⟩
      rw [List.drop_eq_getElem_cons hlt, he]
      cases v <;> simp [V.cells, V.scalar] at hsc ⊢
    · cases hp
  obtain ⟨m, hm, hle⟩ := hcells
  have hp' := h.part (off := off) (n := m)
  rw [← hm] at hp'
  refine Rep.of_reads hp' fun j hj => ?_
  rw [hm] at hj
  simp at hj
  rw [show o + off + j = o + (off + j) by omega]
  exact hI _ (by omega)

theorem indexV_sound {t : TypeId} {a b v : V} {ca cb : Value} (h : indexV P t a b = some v) (ha : Rep E a ca) (hb : Rep E b cb) :
    ∃ cv, (Instr.indexAt t ca cb).run P E.w = .ok cv E.w ∧ Rep E v cv := by
  unfold indexV at h
  split at h
  · rename_i es k i
    cases hb
    cases he : elemT P t with
    | none => simp [he] at h
    | some el =>
      cases hn : sizeT P el with
      | none => simp [he, hn] at h
      | some n =>
        simp only [he, hn, Option.bind_some] at h
        split at h
        · rename_i h0
          cases hi : es[i.toNat]? with
          | none => simp [hi] at h
          | some e =>
            simp only [hi, Option.bind_some] at h
            split at h
            · rename_i hne
              cases h
              cases ha with
              | slice0 => simp at hi
              | @slice _ cvs b o cap s hl hc hu hcap =>
                have hlt : i.toNat < es.length := (List.getElem?_eq_some_iff.1 hi).1
                have hs : s = n := by rw [← hne, (hu e (List.mem_of_getElem? hi)).1]
                subst hs
                refine ⟨.pointer (some ⟨b, o + i.toNat * s, none⟩), ?_, ?_⟩
                · have hu' := elemT_spec he
                  have : 0 ≤ i ∧ i < (es.length : Int) := ⟨h0, by omega⟩
                  simp [Instr.indexAt, asIntOf, run_underlying hu', this, run_sizeOf' hn, Addr.add_mid]
                · have hf := flat_part (fun e he => (hu e he).1) hi
                  have hsc : ∀ c ∈ es.flatMap V.cells, c.scalar = true := fun c hm => by
                    obtain ⟨e', he', hm'⟩ := List.mem_flatMap.1 hm
                    exact (hu e' he').2 c hm'
                  have hr : Reads E b o (es.flatMap V.cells) := ⟨cvs, hl, hsc, fun j u hj => (hc j u hj).1⟩
                  have hp := hr.part (off := i.toNat * s) (n := s)
                  rw [hf.1] at hp
                  refine Rep.of_reads hp fun j hj => ?_
                  have hj' : i.toNat * s + j < cvs.length := by rw [hl.length]; omega
                  have := (hc _ _ (List.getElem?_eq_getElem hj')).2
                  rw [show o + i.toNat * s + j = o + (i.toNat * s + j) by omega]; exact this
            · cases h
        · cases h
  · rename_i cs k i
    cases hb
    cases he : arrT P t with
    | none => simp [he] at h
    | some me =>
      obtain ⟨m, el⟩ := me
      cases hn : sizeT P el with
      | none => simp [he, hn] at h
      | some n =>
        simp only [he, hn, Option.bind_some] at h
        split at h
        · rename_i h0
          obtain ⟨ad, rfl⟩ := ha.rptr_inv
          obtain ⟨b, o, rfl, hr, hI⟩ := ha.reads
          cases hp : partV P el cs (i.toNat * n) with
          | none => simp [hp] at h
          | some e =>
            simp [hp] at h; subst h
            refine ⟨.pointer (some ⟨b, o + i.toNat * n, none⟩), ?_, ?_⟩
            · have hu' := arrT_spec he
              simp [Instr.indexAt, asIntOf, run_underlying hu', h0, run_sizeOf' hn, Addr.add_mid, Instr.sureAddr]
            · exact reads_rptr hr hI hp
        · cases h
  · rename_i id off k i
    cases hb
    cases he : arrT P t with
    | none => simp [he] at h
    | some me =>
      obtain ⟨m, el⟩ := me
      cases hn : sizeT P el with
      | none => simp [he, hn] at h
      | some n =>
        simp only [he, hn, Option.bind_some] at h
        split at h
        · rename_i h0
          cases h
          obtain ⟨b, hb, rfl⟩ := ptr_inv ha
          have hu' := arrT_spec he
          exact ⟨_, by simp [Instr.indexAt, asIntOf, run_underlying hu', h0, run_sizeOf' hn, Addr.add_mid, Instr.sureAddr], .ptr hb⟩
        · cases h
  · cases h

theorem run_fieldAt' {s f o t n b off : Nat} (hf : fldT P s f = some (o, t)) (hn : sizeT P t = some n) (h0 : n ≠ 0) (w : World) :
    (Instr.fieldAt s (.pointer (some ⟨b, off, none⟩)) f).run P w = .ok (.pointer (some ⟨b, off + o, none⟩)) w := by
  obtain ⟨fs, x, hu, hx, rfl, rfl⟩ := fldT_spec hf
  simp [Instr.fieldAt, run_underlying hu, hx, Instr.sureAddr, fieldPlace, run_sizeOf' hn, h0, Addr.add_mid]

theorem faddrV_sound {s f : Nat} {a v : V} {ca : Value} (h : faddrV P s f a = some v) (ha : Rep E a ca) :
    ∃ cv, (Instr.fieldAt s ca f).run P E.w = .ok cv E.w ∧ Rep E v cv := by
  unfold faddrV at h
  split at h
  · obtain ⟨⟨o, t⟩, hf, h⟩ := Option.bind_eq_some_iff.1 h
    obtain ⟨n, hn, h⟩ := Option.bind_eq_some_iff.1 h
    split at h
    · cases h
    rename_i h0
    obtain ⟨e, hp, rfl⟩ := Option.map_eq_some_iff.1 h
    obtain ⟨ad, rfl⟩ := ha.rptr_inv
    obtain ⟨b, off, rfl, hr, hI⟩ := ha.reads
    exact ⟨_, run_fieldAt' hf hn h0 E.w, reads_rptr hr hI hp⟩
  · obtain ⟨⟨o, t⟩, hf, h⟩ := Option.bind_eq_some_iff.1 h
    obtain ⟨n, hn, h⟩ := Option.bind_eq_some_iff.1 h
    split at h
    · cases h
    rename_i h0
    cases h
    obtain ⟨b, hb, rfl⟩ := ptr_inv ha
    exact ⟨_, run_fieldAt' hf hn h0 E.w, .ptr hb⟩
  · obtain ⟨⟨o, t⟩, hf, h⟩ := Option.bind_eq_some_iff.1 h
    obtain ⟨n, hn, h⟩ := Option.bind_eq_some_iff.1 h
    split at h
    · cases h
    rename_i h0
    cases h
    cases ha with | eptr h1 h2 h3 => exact ⟨_, run_fieldAt' hf hn h0 E.w, by rw [Nat.add_assoc]; exact .eptr h1 h2 h3⟩
  · cases h

theorem Rep.agg_inv {cs : List V} {cv : Value} (h : Rep E (.agg cs) cv) : ∃ cvs, cv = .agg cvs.toArray ∧ RepL E cs cvs ∧ ∀ c ∈ cs, c.scalar = true := by
  cases h with | agg h hs => exact ⟨_, rfl, h, hs⟩

theorem fieldV_sound {s f o t : Nat} {cs : List V} {v : V} {ca : Value} (hf : fldT P s f = some (o, t)) (hp : partV P t cs o = some v) (ha : Rep E (.agg cs) ca) (w : World) :
    ∃ cv, (Instr.field s ca f).run P w = .ok cv w ∧ Rep E v cv := by
  obtain ⟨fs, x, hu, hx, rfl, rfl⟩ := fldT_spec hf
  obtain ⟨cvs, rfl, hr, hs⟩ := ha.agg_inv
  obtain ⟨cv, h1, h2⟩ := partV_rep (P := P) hr hs hp w
  exact ⟨cv, by simp [Instr.field, run_underlying hu, hx, asAgg, h1], h2⟩

theorem atV_sound {t : TypeId} {a b v : V} {ca cb : Value} (h : atV P t a b = some v) (ha : Rep E a ca) (hb : Rep E b cb) (w : World) :
    ∃ cv, (Instr.index t ca cb).run P w = .ok cv w ∧ Rep E v cv := by
  unfold atV at h
  split at h
  · obtain ⟨⟨m, el⟩, he, h⟩ := Option.bind_eq_some_iff.1 h
    obtain ⟨n, hn, h⟩ := Option.bind_eq_some_iff.1 h
    split at h
    · rename_i h0
      cases hb
      obtain ⟨cvs, rfl, hr, hs⟩ := ha.agg_inv
      obtain ⟨cv, h1, h2⟩ := partV_rep (P := P) hr hs h w
      refine ⟨cv, ?_, h2⟩
      simp [Instr.index, asIntOf, run_underlying (arrT_spec he), h0, run_sizeOf' hn, h1]
    · cases h
  · cases ha; cases hb
    rename_i s _ i
    split at h
    · rename_i h0
      obtain ⟨u, hu, rfl⟩ := Option.map_eq_some_iff.1 h
      refine ⟨.int .u8 u.toNat, ?_, .int _ _⟩
      simp [Instr.index, asIntOf, run_underlying (sortT_str h0.1), h0.2, hu]
    · cases h
  · cases h

end
end Go.Awp

/- AWP, text 6: slice expressions; all the pure operations. -/
namespace Go.Awp
open Go

section
variable {P : Program} {E : Amb} {lk : Operand → Option V} {ρ : Operand → Value}

theorem run_bound {d y n : Nat} {code : BoundsCode} {x : Operand} (hρ : ∀ v, lk x = some v → Rep E v (ρ x)) (h : bndV d (some (lk x)) = some n) (hy : n ≤ y) (w : World) :
    (Instr.sliceBound (ρ x) y code).run P w = .ok n w := by
  unfold bndV at h
  split at h
  · rename_i e; cases e
  · rename_i k i e
    split at h
    · rename_i h0
      cases h
      have hr := hρ _ (by injection e)
      cases hv : ρ x with
      | int k' j =>
        rw [hv] at hr
        cases hr
        have : i ≤ (y : Int) := by omega
        simp [Instr.sliceBound, asIntOf, h0, this]
      | _ => rw [hv] at hr; cases hr
    · cases h
  · cases h

theorem bndV_some (d d' : Nat) (y : Option V) : bndV d (some y) = bndV d' (some y) := by unfold bndV; split <;> first | rfl | simp_all

/-- The three bounds. -/
theorem run_bounds {isSlice : Bool} {len cap l h m : Nat} {lo hi mx : Option Operand}
    (hlo : ∀ x, lo = some x → ∀ v, lk x = some v → Rep E v (ρ x)) (hhi : ∀ x, hi = some x → ∀ v, lk x = some v → Rep E v (ρ x)) (hmx : ∀ x, mx = some x → ∀ v, lk x = some v → Rep E v (ρ x))
    (el : bndV 0 (lo.map lk) = some l) (eh : bndV len (hi.map lk) = some h) (em : bndV cap (mx.map lk) = some m) (h1 : l ≤ h) (h2 : h ≤ m) (h3 : m ≤ cap) (hm : mx.isSome = true → hi.isSome = true) (w : World) :
    (Instr.sliceBounds isSlice len cap (lo.map ρ) (hi.map ρ) (mx.map ρ)).run P w = .ok (l, h, m) w := by
  cases mx with
  | none =>
    simp [bndV] at em; subst em
    cases hi with
    | none =>
      simp [bndV] at eh; subst eh
      cases lo with
      | none => simp [bndV] at el; subst el; simp [Instr.sliceBounds]
      | some x => simp [Instr.sliceBounds, run_bound (hlo x rfl) el h1]
    | some z =>
      cases lo with
      | none =>
        simp [bndV] at el; subst el
        cases isSlice <;> simp [Instr.sliceBounds, run_bound (hhi z rfl) eh h2]
      | some x => cases isSlice <;> simp [Instr.sliceBounds, run_bound (hhi z rfl) eh h2, run_bound (hlo x rfl) el h1]
  | some q =>
    cases hi with
    | none => simp at hm
    | some z =>
      cases lo with
      | none =>
        simp [bndV] at el; subst el
        cases isSlice <;> simp [Instr.sliceBounds, run_bound (hmx q rfl) em h3, run_bound (hhi z rfl) eh h2]
      | some x => cases isSlice <;> simp [Instr.sliceBounds, run_bound (hmx q rfl) em h3, run_bound (hhi z rfl) eh h2, run_bound (hlo x rfl) el h1]

theorem drop_take_flat {es : List V} {s : Nat} (hu : ∀ e ∈ es, e.cells.length = s) (l n : Nat) :
    ((es.drop l).take n).flatMap V.cells = ((es.flatMap V.cells).drop (l * s)).take (n * s) := by
  rw [flat_take (fun e he => hu e (List.mem_of_mem_drop he)), flat_drop hu]

/-- A piece of a row that can be read. -/
theorem rep_piece {es : List V} {a : Option Addr} {n c : Nat} (h : Rep E (.slice es) (.slice a n c)) {l k : Nat} (hk : l + k ≤ es.length) (c' : Nat) (hc : k ≤ c') (ad : Option Addr)
    (had : k = 0 ∨ ∀ s, (∀ e ∈ es, e.cells.length = s) → ad = a.map (·.add (l * s))) : Rep E (.slice ((es.drop l).take k)) (.slice ad k c') := by
  have hlen : ((es.drop l).take k).length = k := by simp; omega
  by_cases hk0 : k = 0
  · subst hk0
    simp only [List.take_zero]
    exact .slice0 _ _
  · cases h with
    | slice0 => simp at hk; omega
    | @slice _ cvs b o cap s hl hcc hu hcap =>
      have hs : ∀ e ∈ es, e.cells.length = s := fun e he => (hu e he).1
      have had := (had.resolve_left hk0) s hs
      simp only [Option.map_some, Addr.add_mid] at had
      subst had
      have hx : Rep E (.slice ((es.drop l).take k)) (.slice (some ⟨b, o + l * s, none⟩) ((es.drop l).take k).length c') := by
        refine .slice (cvs := (cvs.drop (l * s)).take (k * s)) (s := s) ?_ ?_ ?_ ?_
        · rw [drop_take_flat hs]; exact (hl.drop _).take _
        · intro j u hj
          rw [List.getElem?_take] at hj
          split at hj
          · rw [List.getElem?_drop] at hj
            have := hcc _ _ hj
            rw [show o + l * s + j = o + (l * s + j) by omega]; exact this
          · simp at hj
        · exact fun e he => hu e (List.mem_of_mem_drop (List.mem_of_mem_take he))
        · omega
      rw [hlen] at hx; exact hx

theorem Rep.uniform {es : List V} {cv : Value} (h : Rep E (.slice es) cv) : ∃ s, ∀ e ∈ es, e.cells.length = s ∧ e.ok := by
  cases h with
  | slice0 => exact ⟨0, by simp⟩
  | slice _ _ hu _ => exact ⟨_, hu⟩

theorem cut0_sound {t el n : Nat} {x : Operand} {lo hi mx : Option Operand} {v : V} {a : Option Addr} {len c : Nat} (h : cut0 (lo.map lk) (hi.map lk) (mx.map lk) = some v)
    (hlo : ∀ x, lo = some x → ∀ v, lk x = some v → Rep E v (ρ x)) (hhi : ∀ x, hi = some x → ∀ v, lk x = some v → Rep E v (ρ x)) (hmx : ∀ x, mx = some x → ∀ v, lk x = some v → Rep E v (ρ x))
    (he : elemT P t = some el) (hn : sizeT P el = some n) (hx : ρ x = .slice a len c) (hlen : hi = none → len = 0) (hcap : mx = none → c = 0) (w : World) :
    ∃ cv, (Instr.sliceAt t (ρ x) (lo.map ρ) (hi.map ρ) (mx.map ρ)).run P w = .ok cv w ∧ Rep E v cv := by
  unfold cut0 at h
  split at h
  · cases h
  rename_i hq
  obtain ⟨l, el', h1⟩ := Option.bind_eq_some_iff.1 h
  obtain ⟨hh, eh, h2⟩ := Option.bind_eq_some_iff.1 h1
  obtain ⟨m, em', h3⟩ := Option.bind_eq_some_iff.1 h2
  split at h3
  · rename_i hb
    obtain ⟨rfl, rfl, rfl⟩ := hb
    cases h3
    have e1 : bndV len (hi.map lk) = some 0 := by
      cases hi with
      | none => simp [bndV, hlen rfl]
      | some z => rw [Option.map_some, bndV_some len 0]; exact eh
    have e2 : bndV c (mx.map lk) = some 0 := by
      cases mx with
      | none => simp [bndV, hcap rfl]
      | some z => rw [Option.map_some, bndV_some c 0]; exact em'
    have hrb := run_bounds (P := P) (E := E) (lk := lk) (ρ := ρ) (isSlice := true) (len := len) (cap := c) hlo hhi hmx el' e1 e2 (Nat.le_refl _) (Nat.le_refl _) (by omega)
      (fun hm => by cases hi <;> simp_all) w
    refine ⟨.slice a 0 0, ?_, .snil _⟩
    have hu := elemT_spec he
    simp [Instr.sliceAt, Instr.slice, hx, run_underlying hu, hrb, run_sizeOf' hn]
  · cases h3

theorem cutV_sound {t : TypeId} {x : Operand} {lo hi mx : Option Operand} {v : V} (h : cutV P t (lk x) (lo.map lk) (hi.map lk) (mx.map lk) = some v)
    (hρ : ∀ y ∈ x :: (lo.toList ++ hi.toList ++ mx.toList), ∀ v, lk y = some v → Rep E v (ρ y)) (w : World) :
    ∃ cv, (Instr.sliceAt t (ρ x) (lo.map ρ) (hi.map ρ) (mx.map ρ)).run P w = .ok cv w ∧ Rep E v cv := by
  have hlo : ∀ y, lo = some y → ∀ v, lk y = some v → Rep E v (ρ y) := fun y e => hρ y (by simp [e])
  have hhi : ∀ y, hi = some y → ∀ v, lk y = some v → Rep E v (ρ y) := fun y e => hρ y (by simp [e])
  have hmx : ∀ y, mx = some y → ∀ v, lk y = some v → Rep E v (ρ y) := fun y e => hρ y (by simp [e])
  have hx := hρ x (by simp)
  clear hρ
  unfold cutV at h
  split at h
  · rename_i es e
    have hr := hx _ e
    obtain ⟨a, c, hv, hle⟩ := hr.slice_inv
    obtain ⟨el, he, h⟩ := Option.bind_eq_some_iff.1 h
    obtain ⟨n, hn, h⟩ := Option.bind_eq_some_iff.1 h
    split at h
    · rename_i hall
      have hes : ∀ e ∈ es, e.cells.length = n := fun e he => by simpa using (List.all_eq_true.1 hall) e he
      cases mx with
      | none =>
        simp only [Option.map_none, Option.isNone_none, if_true] at h
        unfold cutS at h
        obtain ⟨l, el', h⟩ := Option.bind_eq_some_iff.1 h
        obtain ⟨hh, eh, h⟩ := Option.bind_eq_some_iff.1 h
        split at h
        · rename_i hb
          cases h
          have hrb := run_bounds (P := P) (E := E) (lk := lk) (ρ := ρ) (isSlice := true) (len := es.length) (cap := c) (mx := none) hlo hhi (by simp) el' eh (m := c) (by simp [bndV]) hb.1 (by omega) (Nat.le_refl _) (by simp) w
          rw [hv] at hr
          refine ⟨.slice (if c = l then a else a.map (·.add (l * n))) (hh - l) (c - l), ?_, rep_piece hr (by omega) _ (by omega) _ ?_⟩
          · have hu := elemT_spec he
            simp only [Option.map_none] at hrb
            simp [Instr.sliceAt, Instr.slice, hv, run_underlying hu, hrb, run_sizeOf' hn]
          · by_cases h0 : hh - l = 0
            · exact .inl h0
            · refine .inr fun s hs => ?_
              rw [if_neg (by omega)]
              have : s = n := by
                cases es with
                | nil => simp at hb; omega
                | cons e0 es => rw [← hs e0 (by simp), hes e0 (by simp)]
              rw [this]
        · cases h
      | some q =>
        simp only [Option.map_some, Option.isNone_some, Bool.false_eq_true, if_false] at h
        cases hi with
        | none => simp [cut0] at h
        | some z => exact cut0_sound (mx := some q) (hi := some z) h hlo hhi hmx he hn hv (by simp) (by simp) w
    · cases h
  · rename_i e
    have hr := hx _ e
    obtain ⟨el, he, h⟩ := Option.bind_eq_some_iff.1 h
    obtain ⟨n, hn, h⟩ := Option.bind_eq_some_iff.1 h
    have : ∃ a, ρ x = .slice a 0 0 := by
      revert hr; generalize ρ x = y; intro hr; cases hr; exact ⟨_, rfl⟩
    obtain ⟨a, hv⟩ := this
    exact cut0_sound h hlo hhi hmx he hn hv (fun _ => rfl) (fun _ => rfl) w
  · rename_i s e
    have hr := hx _ e
    split at h
    · rename_i hc
      obtain ⟨hs, hm⟩ := hc
      have em : mx = none := by cases mx <;> simp_all
      subst em
      unfold cutB at h
      obtain ⟨l, el', h⟩ := Option.bind_eq_some_iff.1 h
      obtain ⟨hh, eh, h⟩ := Option.bind_eq_some_iff.1 h
      split at h
      · rename_i hb
        cases h
        have hrb := run_bounds (P := P) (E := E) (lk := lk) (ρ := ρ) (isSlice := false) (len := s.size) (cap := s.size) (mx := none) hlo hhi (by simp) el' eh (m := s.size) (by simp [bndV]) hb.1 hb.2 (Nat.le_refl _) (by simp) w
        have : ρ x = .string s := by
          revert hr; generalize ρ x = y; intro hr; cases hr; rfl
        refine ⟨.string (s.extract l hh), ?_, .str _⟩
        simp only [Option.map_none] at hrb
        simp [Instr.sliceAt, Instr.slice, this, run_underlying (sortT_str hs), hrb]
      · cases h
    · cases h
  · cases h

theorem toArray_map {α β : Type} (f : α → β) (a : Array α) : (a.toList.map f).toArray = a.map f := by rw [← Array.toList_map, Array.toArray_toList]

theorem allV_rep {l : List Operand} {vs : List V} (h : allV lk l = some vs) (hρ : ∀ x ∈ l, ∀ v, lk x = some v → Rep E v (ρ x)) : RepL E vs (l.map ρ) := by
  induction l generalizing vs with
  | nil => simp [allV] at h; subst h; exact .nil
  | cons x l ih =>
    simp only [allV] at h
    obtain ⟨v, hv, h⟩ := Option.bind_eq_some_iff.1 h
    obtain ⟨us, hus, h⟩ := Option.bind_eq_some_iff.1 h
    cases h
    exact .cons (hρ x (by simp) v hv) (ih hus fun y hy => hρ y (by simp [hy]))

/-- **The pure operations.** -/
theorem pureOp_sound {o : Oper} {v : V} (h : pureOp P lk o.op = some v) (hρ : ∀ x ∈ o.op.operands, ∀ v, lk x = some v → Rep E v (ρ x)) :
    ∃ cv, (execOp ρ o).run P E.w = .ok (.value cv) E.w ∧ Rep E v cv := by
  obtain ⟨dst, op, type, pos, after, guard⟩ := o
  simp only at h hρ
  have wrap : ∀ {s : Sem Value} {cv : Value}, s.run P E.w = .ok cv E.w → (do pure (Next.value (← s)) : Sem Next).run P E.w = .ok (.value cv) E.w := fun h => by simp [h]
  unfold pureOp at h
  split at h
  · exact ⟨_, rfl, hρ _ (by simp [Op.operands]) _ h⟩
  · exact ⟨_, rfl, hρ _ (by simp [Op.operands]) _ h⟩
  · rename_i c a b
    obtain ⟨u, hu, h⟩ := Option.bind_eq_some_iff.1 h
    split at h
    · rename_i cc
      have hr := hρ c (by simp [Op.operands]) _ hu
      have hc : ρ c = .bool cc := by revert hr; generalize ρ c = y; intro hr; cases hr; rfl
      cases cc with
      | true =>
        simp only [if_true] at h
        exact ⟨_, by simp [execOp, hc, asBool], hρ a (by simp [Op.operands]) _ h⟩
      | false =>
        simp only [Bool.false_eq_true, if_false] at h
        exact ⟨_, by simp [execOp, hc, asBool], hρ b (by simp [Op.operands]) _ h⟩
    · cases h
  · rename_i op t x y yt
    obtain ⟨a, ha, h⟩ := Option.bind_eq_some_iff.1 h
    obtain ⟨b, hb, h⟩ := Option.bind_eq_some_iff.1 h
    obtain ⟨cv, h1, h2⟩ := binV_sound (x := x) (y := y) h (hρ x (by simp [Op.operands]) _ ha) (hρ y (by simp [Op.operands]) _ hb) E.w
    exact ⟨cv, wrap h1, h2⟩
  · rename_i op t x
    obtain ⟨a, ha, h⟩ := Option.bind_eq_some_iff.1 h
    obtain ⟨cv, h1, h2⟩ := unV_sound h (hρ x (by simp [Op.operands]) _ ha) E.w
    exact ⟨cv, wrap h1, h2⟩
  · rename_i s d x
    obtain ⟨a, ha, h⟩ := Option.bind_eq_some_iff.1 h
    obtain ⟨cv, h1, h2⟩ := convV_sound h (hρ x (by simp [Op.operands]) _ ha) E.w
    exact ⟨cv, wrap h1, h2⟩
  · rename_i fn first cap
    obtain ⟨f, hf, h⟩ := Option.bind_eq_some_iff.1 h
    obtain ⟨c, hc, h⟩ := Option.bind_eq_some_iff.1 h
    cases h
    have h1 := allV_rep hf fun x hx => hρ x (by simp [Op.operands]; exact .inl (by simpa using hx))
    have h2 := allV_rep hc fun x hx => hρ x (by simp [Op.operands]; exact .inr (by simpa using hx))
    refine ⟨_, rfl, ?_⟩
    have := Rep.func (fn := fn) h1 h2
    rw [toArray_map, toArray_map] at this
    exact this
  · rename_i t x
    split at h
    · cases h
    rename_i ht
    obtain ⟨a, ha, rfl⟩ := Option.map_eq_some_iff.1 h
    refine ⟨_, wrap ?_, .iface (hρ x (by simp [Op.operands]) _ ha)⟩
    unfold Instr.makeInterface
    cases hu : P.underlying t with
    | none => simp [sortT, hu] at ht
    | some d =>
      rw [Sem.run_bind, run_underlying hu]
      cases d <;> simp [sortT, hu] at ht <;> rfl
  · rename_i x
    obtain ⟨a, ha, h⟩ := Option.bind_eq_some_iff.1 h
    have hr := hρ x (by simp [Op.operands]) _ ha
    split at h
    · cases h
      obtain ⟨ad, e⟩ := hr.rptr_inv
      rw [e] at hr
      obtain ⟨b, o, rfl, _⟩ := hr.reads
      exact ⟨_, by simp only [execOp, e]; rfl, hr⟩
    · cases h
      obtain ⟨b, hb, e⟩ := ptr_inv hr
      exact ⟨_, by simp only [execOp, e]; rfl, by rw [← e]; exact hr⟩
    · cases h
      have : ∃ ad, ρ x = .pointer (some ad) := by revert hr; generalize ρ x = y; intro hr; cases hr; exact ⟨_, rfl⟩
      obtain ⟨ad, e⟩ := this
      exact ⟨_, by simp only [execOp, e]; rfl, by rw [← e]; exact hr⟩
    · cases h
      have : ∃ f fs cs, ρ x = .func (.func f) fs cs := by revert hr; generalize ρ x = y; intro hr; cases hr; exact ⟨_, _, _, rfl⟩
      obtain ⟨f, fs, cs, e⟩ := this
      exact ⟨_, by simp only [execOp, e]; rfl, by rw [← e]; exact hr⟩
    · cases h
  · rename_i s x f
    obtain ⟨a, ha, h⟩ := Option.bind_eq_some_iff.1 h
    obtain ⟨cv, h1, h2⟩ := faddrV_sound h (hρ x (by simp [Op.operands]) _ ha)
    exact ⟨cv, wrap h1, h2⟩
  · rename_i s x f
    obtain ⟨a, ha, h⟩ := Option.bind_eq_some_iff.1 h
    split at h
    · obtain ⟨⟨o, t⟩, hf, h⟩ := Option.bind_eq_some_iff.1 h
      obtain ⟨cv, h1, h2⟩ := fieldV_sound hf h (hρ x (by simp [Op.operands]) _ ha) E.w
      exact ⟨cv, wrap h1, h2⟩
    · cases h
  · rename_i t x i
    obtain ⟨a, ha, h⟩ := Option.bind_eq_some_iff.1 h
    obtain ⟨b, hb, h⟩ := Option.bind_eq_some_iff.1 h
    obtain ⟨cv, h1, h2⟩ := indexV_sound h (hρ x (by simp [Op.operands]) _ ha) (hρ i (by simp [Op.operands]) _ hb)
    exact ⟨cv, wrap h1, h2⟩
  · rename_i t x i
    obtain ⟨a, ha, h⟩ := Option.bind_eq_some_iff.1 h
    obtain ⟨b, hb, h⟩ := Option.bind_eq_some_iff.1 h
    obtain ⟨cv, h1, h2⟩ := atV_sound h (hρ x (by simp [Op.operands]) _ ha) (hρ i (by simp [Op.operands]) _ hb) E.w
    exact ⟨cv, wrap h1, h2⟩
  · rename_i x i
    obtain ⟨a, ha, h⟩ := Option.bind_eq_some_iff.1 h
    split at h
    · rename_i vs
      have hr := hρ x (by simp [Op.operands]) _ ha
      have : ∃ cvs, ρ x = .tuple (List.toArray cvs) ∧ RepL E vs cvs := by revert hr; generalize ρ x = y; intro hr; cases hr; exact ⟨_, rfl, by assumption⟩
      obtain ⟨cvs, e, hl⟩ := this
      obtain ⟨cv, h1, h2⟩ := hl.get h
      exact ⟨cv, wrap (by simp [Instr.extract, e, h1]), h2⟩
    · cases h
  · rename_i t x
    obtain ⟨a, ha, h⟩ := Option.bind_eq_some_iff.1 h
    split at h
    · split at h
      · rename_i hfit
        cases h
        have hr := hρ x (by simp [Op.operands]) _ ha
        obtain ⟨ad, e⟩ := hr.rptr_inv
        rw [e] at hr
        obtain ⟨b, o, rfl, hrd, _⟩ := hr.reads
        obtain ⟨cv, h1, h2⟩ := reads_load (P := P) (off := 0) hrd (fitV_part hfit)
        exact ⟨cv, wrap (by rw [e]; exact h1), h2⟩
      · cases h
    · cases h
  · rename_i t x lo hi mx
    obtain ⟨cv, h1, h2⟩ := cutV_sound (ρ := ρ) h (fun y hy => hρ y (by simp [Op.operands] at hy ⊢; exact hy)) E.w
    exact ⟨cv, wrap h1, h2⟩
  · rename_i c
    split at h
    · rename_i b hb
      obtain ⟨vs, hvs, h⟩ := Option.bind_eq_some_iff.1 h
      have hl := allV_rep hvs fun x hx => hρ x (by simp [Op.operands, Call.operands]; exact .inr (by simpa using hx))
      obtain ⟨cv, h1, h2⟩ := lookV_sound (ty := type) h hl E.w
      refine ⟨cv, ?_, h2⟩
      simp only [execOp, resolve, hb, Sem.run_bind, Sem.run_pure, Result.andThen_ok, invoke]
      rw [← toArray_map ρ]
      have := h1 (c.args.map fun | .const _ => true | _ => false)
      rw [Array.toArray_toList] at this
      exact this
    · cases h
  · cases h
end
end Go.Awp

/- AWP, text 7: new memory, and what is written into one's own. -/
namespace Go.Awp
open Go

section
variable {P : Program} {E : Amb} {σ : Store}

/-- A new block, of cells that may be written (j) or never are. -/
def Amb.alloc (E : Amb) (o : Obj) (j : Option Id) : Amb :=
  { I := fun b k => E.I b k ∨ (j = none ∧ b = E.w.heap.size)
    ι := fun id => if some id = j then .cells E.w.heap.size else E.ι id
    w := E.w.alloc o }

theorem heap_alloc_lt (w : World) (o : Obj) (k : Nat) (h : k < w.heap.size) : (w.alloc o).heap[k]? = w.heap[k]? := Go.RowKit.Below.heap_alloc w o k h
theorem heap_alloc_eq (w : World) (o : Obj) : (w.alloc o).heap[w.heap.size]? = some o := by show (w.heap.push o)[w.heap.size]? = _; simp
theorem size_alloc (w : World) (o : Obj) : (w.alloc o).heap.size = w.heap.size + 1 := by show (w.heap.push o).size = _; simp
theorem cell_alloc_lt (w : World) (o : Obj) (b k : Nat) (h : b < w.heap.size) : (w.alloc o).cell? ⟨b, k, none⟩ = w.cell? ⟨b, k, none⟩ :=
  World.cell?_of_block (heap_alloc_lt w o b h)

theorem Amb.alloc_le (hI : ∀ b o, E.I b o → b < E.w.heap.size) (o : Obj) (j : Option Id) (hj : ∀ i, j = some i → E.ι i = .unborn) : E.Le (E.alloc o j) := by
  refine ⟨fun b k h => .inl h, fun b k h => cell_alloc_lt _ _ _ _ (hI b k h), fun id => ?_⟩
  simp only [Amb.alloc]
  split
  · rename_i e; rw [hj id e.symm]; trivial
  · exact Loc.Le.refl _

theorem alloc_grow (h : StoreRel E σ) (o : Obj) (j : Option Id) (hj : ∀ i, j = some i → E.ι i = .unborn) (σ' : Store) (hk : ∀ id, id ∈ σ'.keys → id ∈ σ.keys ∨ some id = j) : Grow E σ (E.alloc o j) σ' := by
  refine ⟨Amb.alloc_le h.imm o j hj, fun b hb _ => heap_alloc_lt _ _ _ hb, fun b k hi => ?_, fun id hn hu => ?_, fun id hi => ?_, fun b hb => ?_, rfl, rfl, rfl, ?_⟩
  · rcases hi with hi | ⟨_, rfl⟩
    · exact .inl hi
    · exact .inr (.inl (Nat.le_refl _))
  · simp only [Amb.alloc]
    split
    · rename_i e; exact absurd (hj id e.symm) hu
    · rfl
  · rcases hk id hi with hi | e
    · exact .inl hi
    · exact .inr (hj id e.symm)
  · obtain ⟨id, hi, hb⟩ := hb
    simp only [Amb.alloc] at hb
    split at hb
    · simp [Loc.block] at hb; exact .inl (by omega)
    · rename_i hne
      rcases hk id hi with hi | e
      · exact .inr ⟨id, hi, hb⟩
      · exact absurd e hne
  · show E.w.heap.size ≤ (E.w.alloc _).heap.size; rw [size_alloc]; omega

theorem alloc_keep (h : StoreRel E σ) (o : Obj) (j : Option Id) (hj : ∀ i, j = some i → E.ι i = .unborn) {id : Id} {k : Blk} (hk : BlkRel E id k) (hne : some id ≠ j) : BlkRel (E.alloc o j) id k := by
  refine hk.keep (Amb.alloc_le h.imm o j hj) (by simp [Amb.alloc, hne]) (fun b hb => heap_alloc_lt _ _ _ (hk.size hb)) fun b hb k hi => ?_
  rcases hi with hi | ⟨_, rfl⟩
  · exact hi
  · have := hk.size hb; omega

theorem alloc_fin (h : StoreRel E σ) (o : Obj) (j : Option Id) : ∃ N, ∀ id : Id, N ≤ id.1 → (E.alloc o j).ι id = .unborn := by
  obtain ⟨N, hN⟩ := h.fin
  refine ⟨max N (match j with | some i => i.1 + 1 | none => 0), fun id hid => ?_⟩
  simp only [Amb.alloc]
  split
  · rename_i e
    cases j with
    | none => cases e
    | some i => cases e; simp at hid; omega
  · exact hN id (by omega)

/-- New cells that are one's own. -/
theorem alloc_own (h : StoreRel E σ) {j : Id} (hj : E.ι j = .unborn) {t : TypeId} {cs : List V} {c : Array Value} (hr : RepL E cs c.toList) (hs : ∀ x ∈ cs, x.scalar = true) :
    let E' := E.alloc (.cells c t (0, 0)) (some j)
    Rep E' (.ptr j 0) (.pointer (some ⟨E.w.heap.size, 0, none⟩)) ∧ StoreRel E' ((j, .cells t cs) :: σ) ∧ Grow E σ E' ((j, .cells t cs) :: σ) ∧ ∀ id, id ≠ j → E.ι id = .unborn → E'.ι id = .unborn := by
  intro E'
  have hj' : ∀ i, some j = some i → E.ι i = .unborn := fun i e => by cases e; exact hj
  have hle : E.Le E' := Amb.alloc_le h.imm _ _ hj'
  have hιj : E'.ι j = .cells E.w.heap.size := by simp [E', Amb.alloc]
  have hnot : j ∉ σ.keys := fun hm => by obtain ⟨k, _, hk⟩ := h.mem hm; exact hk.born hj
  refine ⟨.ptr hιj, ⟨?_, ?_, ?_, ?_, alloc_fin h _ _⟩, alloc_grow h _ _ hj' _ fun id hi => ?_, fun id hne hu => by simp [E', Amb.alloc, hne, hu]⟩
  · intro id b hm
    rcases List.mem_cons.1 hm with e | hm
    · cases e
      refine ⟨_, c, hιj, heap_alloc_eq _ _, hr.mono hle, hs, fun o hi => ?_⟩
      rcases hi with hi | ⟨e, _⟩
      · have := h.imm _ _ hi; omega
      · cases e
    · have : id ∈ σ.keys := List.mem_map.2 ⟨_, hm, rfl⟩
      exact alloc_keep h _ _ hj' (h.blk id b hm) (fun e => by cases e; exact hnot this)
  · show (j :: σ.keys).Nodup
    exact List.nodup_cons.2 ⟨hnot, h.nodup⟩
  · intro i k hi hk hne b hb hkb
    have key : ∀ i, i ∈ Store.keys ((j, .cells t cs) :: σ) → i = j ∨ (i ∈ σ.keys ∧ i ≠ j) := fun i hi => by
      rcases List.mem_cons.1 hi with e | hi
      · exact .inl e
      · exact .inr ⟨hi, fun e => hnot (e ▸ hi)⟩
    have old : ∀ i, i ≠ j → E'.ι i = E.ι i := fun i hi => by simp [E', Amb.alloc, hi]
    rcases key i hi with e1 | ⟨hi, hij⟩ <;> rcases key k hk with e2 | ⟨hk, hkj⟩
    · exact hne (e1.trans e2.symm)
    · rw [e1, hιj] at hb; simp [Loc.block] at hb
      rw [old k hkj] at hkb
      obtain ⟨kk, _, hkk⟩ := h.mem hk
      have := hkk.size hkb; omega
    · rw [e2, hιj] at hkb; simp [Loc.block] at hkb
      rw [old i hij] at hb
      obtain ⟨kk, _, hkk⟩ := h.mem hi
      have := hkk.size hb; omega
    · rw [old i hij] at hb; rw [old k hkj] at hkb
      exact h.apart i k hi hk hne b hb hkb
  · intro b o hi
    rcases hi with hi | ⟨_, rfl⟩
    · have := h.imm b o hi; (show b < (E.w.alloc _).heap.size; rw [size_alloc]; omega)
    · show E.w.heap.size < (E.w.alloc _).heap.size; rw [size_alloc]; omega
  · rcases List.mem_cons.1 hi with e | hi
    · exact .inr (by rw [e])
    · exact .inl hi

/-- New cells that never change. -/
theorem alloc_imm (h : StoreRel E σ) (c : Array Value) (t : TypeId) :
    let E' := E.alloc (.cells c t (0, 0)) none
    E.Le E' ∧ StoreRel E' σ ∧ Grow E σ E' σ ∧ (∀ id, E.ι id = .unborn → E'.ι id = .unborn) ∧
      ∀ j u, c[j]? = some u → E'.w.cell? ⟨E.w.heap.size, j, none⟩ = some u ∧ E'.I E.w.heap.size j := by
  intro E'
  have hj' : ∀ i, none = some i → E.ι i = .unborn := fun i e => by cases e
  have hle : E.Le E' := Amb.alloc_le h.imm _ _ hj'
  have old : ∀ i, E'.ι i = E.ι i := fun i => by simp [E', Amb.alloc]
  refine ⟨hle, ⟨?_, h.nodup, ?_, ?_, alloc_fin h _ _⟩, alloc_grow h _ _ hj' _ fun id hi => .inl hi, fun id hu => by rw [old]; exact hu, fun j u hu => ⟨?_, .inr ⟨rfl, rfl⟩⟩⟩
  · exact fun id b hm => alloc_keep h _ _ hj' (h.blk id b hm) (by simp)
  · intro i k hi hk hne b hb hkb
    rw [old i] at hb; rw [old k] at hkb
    exact h.apart i k hi hk hne b hb hkb
  · intro b o hi
    rcases hi with hi | ⟨_, rfl⟩
    · have := h.imm b o hi; (show b < (E.w.alloc _).heap.size; rw [size_alloc]; omega)
    · show E.w.heap.size < (E.w.alloc _).heap.size; rw [size_alloc]; omega
  · show (E.w.alloc _).cell? _ = _
    unfold World.cell?
    rw [show (⟨E.w.heap.size, j, none⟩ : Addr).block = E.w.heap.size from rfl, heap_alloc_eq]
    simpa using hu

def Store.get : Store → Id → Option Blk
  | [], _ => none
  | (i, k) :: r, id => if i = id then some k else Store.get r id

/-- A block with another content. -/
def Store.put : Store → Id → Blk → Store
  | [], _, _ => []
  | (i, k) :: r, id, b => if i = id then (i, b) :: r else (i, k) :: Store.put r id b

theorem Store.put_keys (σ : Store) (id : Id) (b : Blk) : (σ.put id b).keys = σ.keys := by
  induction σ with
  | nil => rfl
  | cons x r ih =>
    obtain ⟨i, k⟩ := x
    simp only [Store.put]
    split
    · rfl
    · show i :: Store.keys (Store.put r id b) = i :: Store.keys r
      rw [ih]

theorem Store.mem_put {σ : Store} {id : Id} {b : Blk} {x : Id × Blk} (h : x ∈ σ.put id b) : x = (id, b) ∨ (x ∈ σ ∧ (σ.keys.Nodup → x.1 ≠ id)) := by
  induction σ with
  | nil => simp [Store.put] at h
  | cons y r ih =>
    obtain ⟨i, k⟩ := y
    simp only [Store.put] at h
    split at h
    · rename_i e
      subst e
      rcases List.mem_cons.1 h with h | h
      · exact .inl h
      · refine .inr ⟨List.mem_cons_of_mem _ h, fun hn e => ?_⟩
        have hn := (List.nodup_cons.1 hn).1
        exact hn (List.mem_map.2 ⟨x, h, e⟩)
    · rename_i hne
      rcases List.mem_cons.1 h with h | h
      · subst h; exact .inr ⟨List.mem_cons_self, fun _ => hne⟩
      · rcases ih h with e | ⟨hm, hx⟩
        · exact .inl e
        · exact .inr ⟨List.mem_cons_of_mem _ hm, fun hn => hx (List.nodup_cons.1 hn).2⟩

theorem Store.get_mem {σ : Store} {id : Id} {b : Blk} (h : σ.get id = some b) : (id, b) ∈ σ := by
  induction σ with
  | nil => simp [Store.get] at h
  | cons y r ih =>
    obtain ⟨i, k⟩ := y
    simp only [Store.get] at h
    split at h
    · rename_i e
      cases h; subst e; exact List.mem_cons_self
    · exact List.mem_cons_of_mem _ (ih h)

/-- One's own block is written: another content of cells, the same size. -/
theorem write_own (h : StoreRel E σ) {id : Id} {k k' : Blk} (hm : (id, k) ∈ σ) {b : Nat} (hb : (E.ι id).block = some b) (w' : World)
    (hsz : w'.heap.size = E.w.heap.size) (hos : w'.os = E.w.os) (htape : w'.tape = E.w.tape) (hout : w'.output = E.w.output)
    (hoth : ∀ i, i ≠ b → w'.heap[i]? = E.w.heap[i]?)
    (hI : ∀ o, E.I b o → w'.cell? ⟨b, o, none⟩ = E.w.cell? ⟨b, o, none⟩)
    (hk' : E.Le { E with w := w' } → BlkRel { E with w := w' } id k') :
    StoreRel { E with w := w' } (σ.put id k') ∧ Grow E σ { E with w := w' } (σ.put id k') := by
  have hle : E.Le { E with w := w' } := by
    refine ⟨fun _ _ h => h, fun c o hi => ?_, fun _ => Loc.Le.refl _⟩
    by_cases e : c = b
    · subst e; exact hI o hi
    · exact World.cell?_of_block (hoth c e)
  have hid : id ∈ σ.keys := List.mem_map.2 ⟨_, hm, rfl⟩
  constructor
  · refine ⟨fun i x hx => ?_, by rw [Store.put_keys]; exact h.nodup, by rw [Store.put_keys]; exact h.apart, fun c o hi => by have := h.imm c o hi; simp only [hsz]; exact this, h.fin⟩
    rcases Store.mem_put hx with e | ⟨hx, hne⟩
    · cases e; exact hk' hle
    · have hne := hne h.nodup
      have hi : i ∈ σ.keys := List.mem_map.2 ⟨_, hx, rfl⟩
      refine (h.blk i x hx).keep hle rfl (fun c hc => hoth c fun e => ?_) fun _ _ _ hi => hi
      subst e
      exact h.apart i id hi hid hne c hc hb
  · refine ⟨hle, fun c hc ho => hoth c fun e => ho ⟨id, hid, by rw [e]; exact hb⟩, fun _ _ hi => .inl hi, fun _ _ _ => rfl, fun i hi => .inl (by rw [Store.put_keys] at hi; exact hi), fun c ⟨i, hi, hc⟩ => .inr ⟨i, by rw [Store.put_keys] at hi; exact hi, hc⟩, hos, htape, hout, by simp [hsz]⟩
end
end Go.Awp

/- AWP, text 8: operations on one's own memory. -/
namespace Go.Awp
open Go

/-! ### Constants -/
def ofS : Value → Option V
  | .bool b => some (.bool b)
  | .int k n => some (.int k n)
  | .float k n => some (.float k n)
  | .complex k n m => some (.cplx k n m)
  | .string s => some (.str s)
  | .pointer none => some .nilp
  | .slice none 0 0 => some .snil
  | .nilFunc => some .nilf
  | .nilIface => some .nili
  | _ => none

def allS : List Value → Option (List V)
  | [] => some []
  | x :: xs => (ofS x).bind fun v => (allS xs).bind fun vs => some (v :: vs)

def ofV : Value → Option V
  | .agg cs => (allS cs.toList).map .agg
  | v => ofS v

theorem ofS_rep {E : Amb} {cv : Value} {v : V} (h : ofS cv = some v) : Rep E v cv ∧ v.scalar = true := by
  unfold ofS at h
  split at h <;> cases h <;> exact ⟨by constructor, rfl⟩

theorem allS_rep {E : Amb} {cvs : List Value} {vs : List V} (h : allS cvs = some vs) : RepL E vs cvs ∧ ∀ v ∈ vs, v.scalar = true := by
  induction cvs generalizing vs with
  | nil => simp [allS] at h; subst h; exact ⟨.nil, by simp⟩
  | cons x xs ih =>
    simp only [allS] at h
    obtain ⟨v, hv, h1⟩ := Option.bind_eq_some_iff.1 h
    obtain ⟨us, hu, h2⟩ := Option.bind_eq_some_iff.1 h1
    cases h2
    have := ofS_rep (E := E) hv
    have h3 := ih hu
    exact ⟨.cons this.1 h3.1, fun u hu => by rcases List.mem_cons.1 hu with e | e; exact e ▸ this.2; exact h3.2 u e⟩

theorem ofV_rep {E : Amb} {cv : Value} {v : V} (h : ofV cv = some v) : Rep E v cv ∧ v.ok := by
  unfold ofV at h
  split at h
  · rename_i cs
    obtain ⟨vs, hv, rfl⟩ := Option.map_eq_some_iff.1 h
    have := allS_rep (E := E) hv
    exact ⟨by have := Rep.agg this.1 this.2; simpa using this, this.2⟩
  · have := ofS_rep (E := E) h
    refine ⟨this.1, ?_⟩
    have h2 := this.2
    intro c hc
    cases v <;> simp [V.cells, V.scalar] at hc h2 ⊢ <;> subst hc <;> rfl

/-- The cells of a type's zero value. -/
def zeroC (P : Program) (t : TypeId) : Option V := ((P.info? t).bind (·.zero)).bind ofV

theorem zeroC_run {P : Program} {t : TypeId} {v : V} (h : zeroC P t = some v) (E : Amb) : ∃ cv, (∀ w, (zeroValue t).run P w = .ok cv w) ∧ Rep E v cv ∧ v.ok ∧ RepL E v.cells cv.cells.toList := by
  unfold zeroC at h
  obtain ⟨cv, hz, hv⟩ := Option.bind_eq_some_iff.1 h
  obtain ⟨i, hi, hz⟩ := Option.bind_eq_some_iff.1 hz
  have := ofV_rep (E := E) hv
  have hw : v.wf = true := by
    have h2 := this.2
    cases v <;> first | rfl | (have := h2 _ (by simp [V.cells]; rfl); simp [V.scalar] at this)
  exact ⟨cv, fun w => by simp [zeroValue, typeInfo, hi, hz], this.1, this.2, (this.1.cells hw).1⟩

/-- What an operation does to the store. -/
inductive Upd where
  | none
  | new (b : Blk)
  | put (id : Id) (b : Blk)
  deriving Inhabited

def Upd.isNew : Upd → Bool
  | .new _ => true
  | _ => false

def Upd.app (σ : Store) (j : Id) : Upd → Store
  | .none => σ
  | .new b => (j, b) :: σ
  | .put id b => σ.put id b

def setL (cs : List V) (off : Nat) (vs : List V) : List V := cs.take off ++ vs ++ cs.drop (off + vs.length)

/-- Parts put into an aggregate. -/
def putP (place : Nat → Option Nat) : List (Nat × V) → List V → Option (List V)
  | [], cs => some cs
  | (i, v) :: r, cs => (place i).bind fun o => if v.wf = true ∧ o + v.cells.length ≤ cs.length then putP place r (setL cs o v.cells) else none

def partsV (lk : Operand → Option V) : List (Nat × Operand) → Option (List (Nat × V))
  | [] => some []
  | (i, x) :: r => (lk x).bind fun v => (partsV lk r).bind fun vs => some ((i, v) :: vs)

def storeOp (P : Program) (lk : Operand → Option V) (get : Id → Option Blk) (j : Id) : Op → Option (V × Upd)
  | .load t x => (lk x).bind fun
    | .ptr id off => (get id).bind fun | .cells _ cs => (partV P t cs off).map (·, .none) | _ => none
    | .eptr id ver s i off => (get id).bind fun
      | .vec _ s' es ver' _ => if ver = ver' ∧ s = s' then (es[i]?).bind fun e => (if off = 0 ∧ fitV P t e = true then some e else partV P t e.cells off).map (·, .none) else none
      | _ => none
    | _ => none
  | .store t x y => (lk x).bind fun p => (lk y).bind fun v => match p with
    | .ptr id off => (get id).bind fun
      | .cells t' cs => if sizeT P t = some v.cells.length ∧ v.wf = true ∧ off + v.cells.length ≤ cs.length then some (.any, .put id (.cells t' (setL cs off v.cells))) else none
      | _ => none
    | .eptr id ver s i off => (get id).bind fun
      | .vec t' s' es ver' true => if ver = ver' ∧ s = s' then (es[i]?).bind fun e =>
          if sizeT P t = some v.cells.length ∧ v.wf = true ∧ off + v.cells.length ≤ e.cells.length then
            some (.any, .put id (.vec t' s' (es.set i (if off = 0 ∧ v.cells.length = e.cells.length then v else .agg (setL e.cells off v.cells))) ver' true)) else none
        else none
      | _ => none
    | _ => none
  | .alloc t => (zeroC P t).map fun z => (.ptr j 0, .new (.cells t z.cells))
  | .box t x => (lk x).bind fun v => if v.wf = true then some (.ptr j 0, .new (.cells t v.cells)) else none
  | _ => none

/-- Small triples: from a store to a store, in whatever memory. -/
def OpOk (P : Program) (o : Oper) (lk : Operand → Option V) (σ : Store) (j : Id) (v : V) (σ' : Store) (nw : Bool) : Prop :=
  ∀ (E : Amb) (ρ : Operand → Value), StoreRel E σ → E.ι j = .unborn → (∀ x ∈ o.op.operands, ∀ u, lk x = some u → Rep E u (ρ x)) →
    ∃ E' cv, ((execOp ρ o).run P E.w = .ok (.value cv) E'.w ∨ ((execOp ρ o).run P E.w = .ok .skip E'.w ∧ cv = undef)) ∧ Rep E' v cv ∧ StoreRel E' σ' ∧ Grow E σ E' σ' ∧
      ∀ id, (nw = true → id ≠ j) → E.ι id = .unborn → E'.ι id = .unborn

section
variable {P : Program} {lk : Operand → Option V} {σ : Store} {j : Id}

theorem OpOk.pure {o : Oper} {v : V} (h : pureOp P lk o.op = some v) : OpOk P o lk σ j v σ false := fun E ρ hs _ hρ => by
  obtain ⟨cv, h1, h2⟩ := pureOp_sound h hρ
  exact ⟨E, cv, .inl h1, h2, hs, Grow.refl E σ, fun _ _ h => h⟩

theorem BlkRel.reads {E : Amb} {id : Id} {t : TypeId} {cs : List V} (h : BlkRel E id (.cells t cs)) {off : Nat} {cv : Value} (hp : Rep E (.ptr id off) cv) :
    ∃ b, cv = .pointer (some ⟨b, 0 + off, none⟩) ∧ Reads E b 0 cs := by
  obtain ⟨b, c, e, hh, hr, hs, _⟩ := h
  obtain ⟨b', e', rfl⟩ := ptr_inv hp
  rw [e] at e'; cases e'
  exact ⟨b, by simp, c.toList, hr, hs, fun k u hk => by
    unfold World.cell?
    simp only [hh, Option.isSome_none, Bool.false_eq_true, if_false]
    simpa using hk⟩

theorem flat_get {es : List V} {s i : Nat} {e : V} (hu : ∀ e ∈ es, e.cells.length = s) (hi : es[i]? = some e) {k : Nat} (hk : k < s) : (es.flatMap V.cells)[i * s + k]? = e.cells[k]? := by
  have := (flat_part hu hi).1
  rw [← this, List.getElem?_take, if_pos hk, List.getElem?_drop]

/-- An element of a row of one's own, as it lies in memory. -/
theorem BlkRel.readsE {E : Amb} {id : Id} {t : TypeId} {s ver i off : Nat} {es : List V} {wr : Bool} (h : BlkRel E id (.vec t s es ver wr)) {cv : Value} {e : V} (hi : es[i]? = some e)
    (hp : Rep E (.eptr id ver s i off) cv) : ∃ b, cv = .pointer (some ⟨b, i * s + off, none⟩) ∧ Reads E b (i * s) e.cells ∧ (E.ι id).block = some b := by
  obtain ⟨hv, xs, eι, hown, hr, hs, h0, hI⟩ := h
  have hu : ∀ e ∈ es, e.cells.length = s := fun e he => (hs e he).1
  cases hp with
  | @eptr _ _ ver'' _ _ _ b hv' h1 hle hc =>
    rw [eι] at h1; cases h1
    obtain ⟨n, c, rfl⟩ := hc rfl
    rcases hown.2 with ⟨a, hn, hn0⟩ | ⟨g, cap, cur, hc0, e1, hg, hcap, _, hsz, htk⟩
    · have := (List.getElem?_eq_some_iff.1 hi).1
      omega
    · cases e1
      refine ⟨b, rfl, ?_, by rw [eι]; simp [Loc.block, hblk]; omega⟩
      have hlen : (es.flatMap V.cells).length = es.length * s := flat_length hu
      have hlt : i < es.length := (List.getElem?_eq_some_iff.1 hi).1
      have hR : Reads E b 0 (es.flatMap V.cells) := by
        refine ⟨xs, hr, fun c hm => by obtain ⟨e', he', hm'⟩ := List.mem_flatMap.1 hm; exact (hs e' he').2 c hm', fun k u hk => ?_⟩
        unfold World.cell?
        simp only [hg, Option.isSome_none, Bool.false_eq_true, if_false, Nat.zero_add]
        rw [← htk, List.getElem?_take] at hk
        split at hk
        · simpa using hk
        · cases hk
      have := hR.part (off := i * s) (n := s)
      rw [(flat_part hu hi).1, Nat.zero_add] at this
      exact this

end
end Go.Awp

/- AWP, text 9: operations on one's own memory are sound. -/
namespace Go.Awp
open Go

section
variable {P : Program} {lk : Operand → Option V} {σ : Store} {j : Id} {E : Amb}

theorem RepL.setL {cs us : List V} {cvs uvs : List Value} (h : RepL E cs cvs) (k : RepL E us uvs) (off : Nat) :
    RepL E (setL cs off us) (cvs.take off ++ uvs ++ cvs.drop (off + uvs.length)) := by
  unfold Awp.setL
  rw [k.length]
  exact ((h.take _).append k).append (h.drop _)

theorem setL_length {cs us : List V} {off : Nat} (h : off + us.length ≤ cs.length) : (setL cs off us).length = cs.length := by
  unfold setL; simp; omega

theorem setL_mem {cs us : List V} {off : Nat} {x : V} (h : x ∈ setL cs off us) : x ∈ cs ∨ x ∈ us := by
  unfold setL at h
  simp only [List.mem_append] at h
  rcases h with (h | h) | h
  · exact .inl (List.mem_of_mem_take h)
  · exact .inr h
  · exact .inl (List.mem_of_mem_drop h)

theorem setRow_size (w : World) (g : Nat) (cs : Array Value) : (w.setRow g cs).heap.size = w.heap.size := by simp [World.setRow]
theorem setRow_ne (w : World) (g : Nat) (cs : Array Value) (i : Nat) (h : i ≠ g) : (w.setRow g cs).heap[i]? = w.heap[i]? := by
  simp only [World.setRow, Array.getElem?_modify]; rw [if_neg (fun e => h e.symm)]

/-- The store of a whole value, as the model carries it out. -/
theorem run_store' {t : TypeId} {b off : Nat} {c : Array Value} {t' : TypeId} {cv : Value} {w : World} (hg : w.heap[b]? = some (.cells c t' (0, 0))) (hn : sizeT P t = some cv.cells.size)
    (hle : off + cv.cells.size ≤ c.size) (h1 : ∀ u ∈ cv.cells.toList, u.oneCell' = true) :
    (Instr.storeAt t (.pointer (some ⟨b, off, none⟩)) cv).run P w = .ok () (w.setRow b (c.toList.take off ++ cv.cells.toList ++ c.toList.drop (off + cv.cells.toList.length)).toArray) := by
  have := run_storeCells_at (P := P) b off t' cv.cells.toList 0 c w hg (by simpa using hle) h1
  simp only [Nat.add_zero] at this
  simp only [Instr.storeAt, Instr.sureAddr, Sem.run_bind, Sem.run_pure, Result.andThen_ok, storeVar, run_sizeOf' hn]
  rw [if_neg (by simp)]
  exact this

theorem store_cells {t : TypeId} {id : Id} {off : Nat} {t' : TypeId} {cs : List V} {v : V} {cp cv : Value} (h : StoreRel E σ) (hm : (id, .cells t' cs) ∈ σ) (hp : Rep E (.ptr id off) cp) (hv : Rep E v cv)
    (hn : sizeT P t = some v.cells.length) (hw : v.wf = true) (hle : off + v.cells.length ≤ cs.length) :
    ∃ w', (Instr.storeAt t cp cv).run P E.w = .ok () w' ∧ StoreRel { E with w := w' } (σ.put id (.cells t' (setL cs off v.cells))) ∧ Grow E σ { E with w := w' } (σ.put id (.cells t' (setL cs off v.cells))) := by
  obtain ⟨b, e, rfl⟩ := ptr_inv hp
  obtain ⟨b', c, e', hg, hr, hs, hI⟩ := h.blk _ _ hm
  rw [e] at e'; cases e'
  have hcs := hv.cells hw
  have hlen : cv.cells.toList.length = v.cells.length := hcs.1.length
  have hsz : cv.cells.size = v.cells.length := by simpa using hlen
  have hcl : c.size = cs.length := by simpa using hr.length
  refine ⟨_, run_store' hg (by rw [hsz]; exact hn) (by omega) (hcs.1.scalars hcs.2), ?_⟩
  have hg' := setRow_heap E.w b c (c.toList.take off ++ cv.cells.toList ++ c.toList.drop (off + cv.cells.toList.length)).toArray t' (0, 0) hg
  refine write_own h hm (b := b) (by rw [e]; rfl) _ (setRow_size _ _ _) rfl rfl rfl (fun i hi => setRow_ne _ _ _ _ hi) (fun o hi => absurd hi (hI o)) fun hle' => ?_
  refine ⟨b, _, e, hg', ?_, fun x hx => ?_, hI⟩
  · have := (hr.setL hcs.1 off).mono hle'
    simpa using this
  · rcases setL_mem hx with hx | hx
    · exact hs x hx
    · exact hcs.2 x hx

theorem flat_set {es : List V} {s i : Nat} {e e' : V} (hu : ∀ e ∈ es, e.cells.length = s) (hi : es[i]? = some e) (he : e'.cells.length = s) :
    (es.set i e').flatMap V.cells = setL (es.flatMap V.cells) (i * s) e'.cells := by
  induction es generalizing i with
  | nil => simp at hi
  | cons x es ih =>
    have hx := hu x (by simp)
    have hes : ∀ e ∈ es, e.cells.length = s := fun e he => hu e (by simp [he])
    cases i with
    | zero =>
      simp only [List.set_cons_zero, List.flatMap_cons, Nat.zero_mul, setL, List.take_zero, List.nil_append, Nat.zero_add]
      rw [he, List.drop_append, ← hx]
      simp
    | succ i =>
      simp only [List.getElem?_cons_succ] at hi
      simp only [List.set_cons_succ, List.flatMap_cons]
      rw [ih hes hi]
      unfold setL
      rw [show (i + 1) * s = x.cells.length + i * s by rw [hx, Nat.succ_mul, Nat.add_comm]]
      rw [List.take_append, List.drop_append]
      rw [show x.cells.take (x.cells.length + i * s) = x.cells from List.take_of_length_le (by omega)]
      rw [show x.cells.drop (x.cells.length + i * s + e'.cells.length) = [] from List.drop_eq_nil_of_le (by omega)]
      rw [Nat.add_sub_cancel_left, show x.cells.length + i * s + e'.cells.length - x.cells.length = i * s + e'.cells.length by omega]
      simp [List.append_assoc]

theorem setL_setL (cs us : List V) (o off : Nat) (n : Nat) (h1 : o + n ≤ cs.length) (h2 : off + us.length ≤ n) :
    setL cs o (setL ((cs.drop o).take n) off us) = setL cs (o + off) us := by
  unfold setL
  apply List.ext_getElem?
  intro k
  simp only [List.getElem?_append, List.getElem?_take, List.getElem?_drop, List.length_append, List.length_take, List.length_drop]
  repeat' split
  all_goals first
    | rfl
    | omega
    | (congr 1; omega)

theorem store_elem {t : TypeId} {id : Id} {s i off ver : Nat} {t' : TypeId} {es : List V} {v e : V} {cp cv : Value} (h : StoreRel E σ) (hm : (id, .vec t' s es ver true) ∈ σ) (hp : Rep E (.eptr id ver s i off) cp) (hv : Rep E v cv)
    (hi : es[i]? = some e) (hn : sizeT P t = some v.cells.length) (hw : v.wf = true) (hle : off + v.cells.length ≤ e.cells.length) (e' : V) (he' : e' = if off = 0 ∧ v.cells.length = e.cells.length then v else .agg (setL e.cells off v.cells)) :
    ∃ w', (Instr.storeAt t cp cv).run P E.w = .ok () w' ∧ StoreRel { E with w := w' } (σ.put id (.vec t' s (es.set i e') ver true)) ∧ Grow E σ { E with w := w' } (σ.put id (.vec t' s (es.set i e') ver true)) := by
  obtain ⟨b, rfl, hrd, hblk⟩ := (h.blk _ _ hm).readsE hi hp
  obtain ⟨hv', xs, eι, hown, hr, hs, h0, hI⟩ := h.blk _ _ hm
  have hu : ∀ e ∈ es, e.cells.length = s := fun e he => (hs e he).1
  have hsE := hu e (List.mem_of_getElem? hi)
  have hilt : i < es.length := (List.getElem?_eq_some_iff.1 hi).1
  have hcs := hv.cells hw
  have hlen : cv.cells.toList.length = v.cells.length := hcs.1.length
  have hsz : cv.cells.size = v.cells.length := by simpa using hlen
  have hce : e'.cells = setL e.cells off v.cells := by
    subst he'
    split
    · rename_i hc
      unfold setL
      rw [hc.1, List.take_zero, List.nil_append, Nat.zero_add, hc.2, List.drop_length, List.append_nil]
    · rfl
  have hel : e'.cells.length = s := by rw [hce, setL_length hle, hsE]
  have heok : e'.ok := fun c hc => by
    rw [hce] at hc
    rcases setL_mem hc with hc | hc
    · exact (hs e (List.mem_of_getElem? hi)).2 c hc
    · exact hcs.2 c hc
  have hbI : ∀ o, ¬ E.I b o := fun o ho => by
    rw [eι] at hblk
    have := (hI b hblk o ho).1
    cases this
  rcases hown.2 with ⟨a, _, hn0⟩ | ⟨g, cap, cur, hb0, e1, hg, hcap, hmax, hcsz, htk⟩
  · omega
  · subst e1
    rw [eι] at hblk
    have hgb : g = b := by simp [Loc.block, Awp.hblk] at hblk; exact hblk.2
    subst hgb
    have hxl : xs.length = es.length * s := hown.1
    have hbound : i * s + off + v.cells.length ≤ es.length * s := by
      have h1 : (i + 1) * s ≤ es.length * s := Nat.mul_le_mul_right _ hilt
      rw [Nat.succ_mul] at h1
      omega
    have hcapmul : es.length * s ≤ cap * s := Nat.mul_le_mul_right _ hcap
    refine ⟨_, run_store' hg (by rw [hsz]; exact hn) (by omega) (hcs.1.scalars hcs.2), ?_⟩
    have hg' := setRow_heap E.w g cur (cur.toList.take (i * s + off) ++ cv.cells.toList ++ cur.toList.drop (i * s + off + cv.cells.toList.length)).toArray t' (0, 0) hg
    refine write_own h hm (b := g) (by rw [eι]; simp [Loc.block, Awp.hblk]; omega) _ (setRow_size _ _ _) rfl rfl rfl (fun k hk => setRow_ne _ _ _ _ hk) (fun o ho => absurd ho (hbI o)) fun hle' => ?_
    have hflat : (es.set i e').flatMap V.cells = setL (es.flatMap V.cells) (i * s + off) v.cells := by
      rw [flat_set hu hi hel, hce]
      have := setL_setL (es.flatMap V.cells) v.cells (i * s) off s (flat_part hu hi).2 (by omega)
      rw [(flat_part hu hi).1] at this
      exact this
    refine ⟨.slice (some ⟨g, 0, none⟩) es.length cap, xs.take (i * s + off) ++ cv.cells.toList ++ xs.drop (i * s + off + cv.cells.toList.length), eι, ⟨?_, .inr ⟨g, cap, _, hb0, by simp, hg', by simpa using hcap, hmax, ?_, ?_⟩⟩, ?_, ?_, h0, ?_⟩
    · simp [hsz, hxl]; omega
    · simp [hsz]; omega
    · rw [← htk]
      simp only [List.length_set]
      apply List.ext_getElem?
      intro k
      simp only [List.getElem?_append, List.getElem?_take, List.getElem?_drop, List.length_append, List.length_take, hlen, Array.length_toList, hcsz]
      repeat' split
      all_goals first
        | rfl
        | omega
        | (congr 1; omega)
        | (rw [List.getElem?_eq_none]; simp; omega)
        | (symm; rw [List.getElem?_eq_none]; simp; omega)
    · rw [hflat]
      exact (hr.setL hcs.1 _).mono hle'
    · intro x hx
      rcases List.mem_or_eq_of_mem_set hx with hx | rfl
      · exact hs x hx
      · exact ⟨hel, heok⟩
    · intro b' hb' o ho
      have := hI b' hb' o ho
      exact ⟨this.1, by rw [List.length_set]; exact this.2⟩

theorem reads_elem {t : TypeId} {off : Nat} {e v : V} {b o : Nat} (h : Reads E b o e.cells) (hp : (if off = 0 ∧ fitV P t e = true then some e else partV P t e.cells off) = some v) : ∃ cv, (Instr.loadAt t (.pointer (some ⟨b, o + off, none⟩))).run P E.w = .ok cv E.w ∧ Rep E v cv := by
  split at hp
  · rename_i hc
    cases hp
    rw [hc.1]
    exact reads_load h (fitV_part hc.2)
  · exact reads_load h hp

/-- **The operations on one's own memory.** -/
theorem OpOk.store {o : Oper} {v : V} {u : Upd} (h : storeOp P lk σ.get j o.op = some (v, u)) : OpOk P o lk σ j v (u.app σ j) u.isNew := fun E ρ hs hj hρ => by
  obtain ⟨dst, op, type, pos, after, guard⟩ := o
  simp only at h hρ
  unfold storeOp at h
  split at h
  · rename_i t x
    obtain ⟨p, hp, h⟩ := Option.bind_eq_some_iff.1 h
    have hr := hρ x (by simp [Op.operands]) _ hp
    split at h
    · obtain ⟨k, hk, h⟩ := Option.bind_eq_some_iff.1 h
      split at h
      · obtain ⟨v', hv, e⟩ := Option.map_eq_some_iff.1 h
        cases e
        obtain ⟨b, e, hrd⟩ := (hs.blk _ _ (Store.get_mem hk)).reads hr
        obtain ⟨cv, h1, h2⟩ := reads_load (P := P) hrd hv
        exact ⟨E, cv, .inl (by simp only [execOp, e, Sem.run_bind, h1]; rfl), h2, hs, Grow.refl _ _, fun _ _ h => h⟩
      · cases h
    · obtain ⟨k, hk, h⟩ := Option.bind_eq_some_iff.1 h
      split at h
      · split at h
        · rename_i hc
          obtain ⟨rfl, rfl⟩ := hc
          obtain ⟨e, he, h⟩ := Option.bind_eq_some_iff.1 h
          obtain ⟨v', hv, e'⟩ := Option.map_eq_some_iff.1 h
          cases e'
          obtain ⟨b, e1, hrd, _⟩ := (hs.blk _ _ (Store.get_mem hk)).readsE he hr
          obtain ⟨cv, h1, h2⟩ := reads_elem (P := P) hrd hv
          exact ⟨E, cv, .inl (by simp only [execOp, e1, Sem.run_bind, h1]; rfl), h2, hs, Grow.refl _ _, fun _ _ h => h⟩
        · cases h
      · cases h
    · cases h
  · rename_i t x y
    obtain ⟨p, hp, h⟩ := Option.bind_eq_some_iff.1 h
    obtain ⟨w, hw, h⟩ := Option.bind_eq_some_iff.1 h
    have hr := hρ x (by simp [Op.operands]) _ hp
    have hr' := hρ y (by simp [Op.operands]) _ hw
    split at h
    · obtain ⟨k, hk, h⟩ := Option.bind_eq_some_iff.1 h
      split at h
      · split at h
        · rename_i hc
          cases h
          obtain ⟨w', h1, h2, h3⟩ := store_cells (P := P) hs (Store.get_mem hk) hr hr' hc.1 hc.2.1 hc.2.2
          exact ⟨_, undef, .inr ⟨by simp only [execOp, Sem.run_bind, h1]; rfl, rfl⟩, .any _, h2, h3, fun _ _ h => h⟩
        · cases h
      · cases h
    · obtain ⟨k, hk, h⟩ := Option.bind_eq_some_iff.1 h
      split at h
      · split at h
        · rename_i hc
          obtain ⟨rfl, rfl⟩ := hc
          obtain ⟨e, he, h⟩ := Option.bind_eq_some_iff.1 h
          split at h
          · rename_i hc
            cases h
            obtain ⟨w', h1, h2, h3⟩ := store_elem (P := P) hs (Store.get_mem hk) hr hr' he hc.1 hc.2.1 hc.2.2 _ rfl
            exact ⟨_, undef, .inr ⟨by simp only [execOp, Sem.run_bind, h1]; rfl, rfl⟩, .any _, h2, h3, fun _ _ h => h⟩
          · cases h
        · cases h
      · cases h
    · cases h
  · rename_i t
    obtain ⟨z, hz, e⟩ := Option.map_eq_some_iff.1 h
    cases e
    obtain ⟨cv, h1, h2, h3, h4⟩ := zeroC_run hz E
    have := alloc_own hs hj (t := t) h4 h3
    obtain ⟨r, s, g, n⟩ := this
    refine ⟨_, _, .inl ?_, r, s, g, fun id hn => n id (hn rfl)⟩
    simp only [execOp, Instr.alloc, Sem.run_bind, h1, Result.andThen_ok, newVar, newRow]
    rfl
  · rename_i t x
    obtain ⟨p, hp, h⟩ := Option.bind_eq_some_iff.1 h
    have hr := hρ x (by simp [Op.operands]) _ hp
    split at h
    · rename_i hw
      cases h
      have hc := hr.cells hw
      obtain ⟨r, s, g, n⟩ := alloc_own hs hj (t := t) hc.1 hc.2
      refine ⟨_, _, .inl ?_, r, s, g, fun id hn => n id (hn rfl)⟩
      simp only [execOp, Instr.box, Sem.run_bind, newVar, newRow]
      rfl
    · cases h
  · cases h
end
end Go.Awp

/- AWP, text 10: append. -/
namespace Go.Awp
open Go

section
variable {P : Program}

/-- What is appended: its length and its cells, as the model reads them. -/
structure Src (P : Program) (w : World) (size : Nat) (x : Value) (m : Nat) (news : List Value) : Prop where
  len : (Builtin.lenOf x).run P w = .ok m w
  first : ∀ w' : World, w'.heap = w.heap → (Builtin.firstCells size m x).run P w' = .ok news.toArray w'
  size : news.length = m * size
  one : ∀ u ∈ news, u.oneCell' = true

theorem append_owns {w : World} {t tx ty e : TypeId} {i : TypeInfo} {z : Value} {d : TypeDesc} {hv x : Value} {n m : Nat} {xs news : List Value}
    (ht : P.underlying t = some (.slice e)) (htx : P.underlying tx = some d) (hd : (∃ e', d = .slice e') ∨ d = .string) (hi : P.info? e = some i) (hz : i.zero = some z) (hzs : z.cells.size = i.size)
    (hown : Owns w e i.size hv n xs) (hx : Src P w i.size x m news) (h63 : n + m ≤ maxLen) (hbytes : (n + m) * i.bytes ≤ 140737488355328) :
    ∃ hv' w', (Builtin.append_ #[t, tx] ty #[hv, x]).run P w = .ok hv' w' ∧ Owns w' e i.size hv' (n + m) (xs ++ news) ∧ w'.os = w.os ∧ w'.tape = w.tape ∧ w'.output = w.output ∧
      w.heap.size ≤ w'.heap.size ∧ (∀ k, k < w.heap.size → hblk hv ≠ some k → w'.heap[k]? = w.heap[k]?) ∧ (∀ k o, hblk hv = some k → o < n * i.size → w'.cell? ⟨k, o, none⟩ = w.cell? ⟨k, o, none⟩) ∧
      (∀ k, hblk hv' = some k → hblk hv = some k ∨ w.heap.size ≤ k) := by
  have hsmall : n + m ≤ 9223372036854775807 := by simp only [maxLen] at h63; omega
  have hlen : (xs ++ news).length = (n + m) * i.size := by rw [List.length_append, hown.1, hx.size, Nat.add_mul]
  obtain ⟨base, cap, e0⟩ : ∃ b c, hv = .slice b n c := by
    rcases hown.2 with ⟨a, rfl, rfl⟩ | ⟨g, cap, cur, _, rfl, _⟩
    · exact ⟨_, _, rfl⟩
    · exact ⟨_, _, rfl⟩
  -- it grows
  have grow : cap < n + m → (∀ w' : World, w'.heap = w.heap → (Builtin.firstCells i.size n hv).run P w' = .ok xs.toArray w') →
      ∃ w', (Builtin.append_ #[t, tx] ty #[hv, x]).run P w = .ok (.slice (some ⟨w.heap.size, 0, none⟩) (n + m) (grownCap w (n + m) cap e)) w' ∧
        w' = w.drew.alloc (.cells (xs.toArray ++ news.toArray ++ Builtin.zeroCells z.cells (grownCap w (n + m) cap e - (n + m))) e) := by
    intro hg hold
    refine ⟨_, ?_, rfl⟩
    subst e0
    have hn : ¬ (n + m ≤ cap) := by omega
    have h63' : ¬ (9223372036854775807 < ((n : Int) + (m : Int))) := by omega
    have h48' : ¬ (281474976710656 < Builtin.nextslicecap (n + m) cap * i.bytes) := by
      have := growslice_fits hg hbytes; omega
    have hf := hx.first w.drew rfl
    have hfo := hold w.drew rfl
    have hl := hx.len
    rcases hd with ⟨e', rfl⟩ | rfl
    all_goals
      simp [Builtin.append_, run_underlying ht, run_underlying htx, sizeOf, typeInfo, zeroValue, hi, hz, hl, hn, h63', h48', Question.forced, hf, hfo, newRow, grownCap]
      congr 2
      apply Array.ext'
      simp [List.append_assoc]
  have grown : cap < n + m → ∀ w', w' = w.drew.alloc (.cells (xs.toArray ++ news.toArray ++ Builtin.zeroCells z.cells (grownCap w (n + m) cap e - (n + m))) e) →
      Owns w' e i.size (.slice (some ⟨w.heap.size, 0, none⟩) (n + m) (grownCap w (n + m) cap e)) (n + m) (xs ++ news) ∧ w'.os = w.os ∧ w'.tape = w.tape ∧ w'.output = w.output ∧
      w.heap.size ≤ w'.heap.size ∧ (∀ k, k < w.heap.size → w'.heap[k]? = w.heap[k]?) := by
    intro hg w' hw'
    subst hw'
    have hge := grownCap_ge w (n + m) cap e
    have hcm : grownCap w (n + m) cap e ≤ maxLen := grownCap_le_maxLen w (n + m) cap e h63
    refine ⟨⟨hlen, .inr ⟨w.heap.size, _, _, by omega, rfl, heap_alloc_new w.drew _, hge, hcm, ?_, ?_⟩⟩, rfl, rfl, rfl, by simp, fun k hk => heap_alloc_old w.drew _ k hk⟩
    · simp only [Array.size_append, List.size_toArray, size_zeroCells, hzs, hown.1, hx.size, ← Nat.add_mul]
      congr 1
      omega
    · simp only [Array.toList_append, List.append_assoc]
      rw [← List.append_assoc, ← hlen]
      exact List.take_left
  rcases hown.2 with ⟨a, hv0, hn0⟩ | ⟨g, cap', cur, hc0, hv0, hg, hnc, hcm, hcs, htake⟩
  · rw [hv0] at e0; cases e0
    have hx0 : xs = [] := List.eq_nil_of_length_eq_zero (by simpa using hown.1)
    subst hx0
    by_cases hm : m = 0
    · subst hm
      have hn : news = [] := List.eq_nil_of_length_eq_zero (by simpa using hx.size)
      subst hn
      refine ⟨.slice base 0 0, w, ?_, ⟨by simp, .inl ⟨base, rfl, rfl⟩⟩, rfl, rfl, rfl, Nat.le_refl _, fun _ _ _ => rfl, fun _ _ _ _ => rfl, fun k hk => .inl (by rw [hv0]; exact hk)⟩
      subst hv0
      have hl := hx.len
      have hf := hx.first w rfl
      rcases hd with ⟨e', rfl⟩ | rfl <;> cases base <;> simp [Builtin.append_, run_underlying ht, run_underlying htx, sizeOf, typeInfo, hi, hl, hf, storeCells]
    · have hold : ∀ w' : World, w'.heap = w.heap → (Builtin.firstCells i.size 0 hv).run P w' = .ok ([] : List Value).toArray w' := fun w' _ => by
        subst hv0
        cases base <;> simp [Builtin.firstCells, loadCells, loadCellsFrom]
      obtain ⟨w', h1, h2⟩ := grow (by omega) hold
      obtain ⟨g1, g2, g3, g4, g5, g6⟩ := grown (by omega) w' h2
      exact ⟨_, w', h1, g1, g2, g3, g4, g5, fun k hk _ => g6 k hk, fun k o hk ho => by simp at ho, fun k hk => .inr (by
        simp [hblk] at hk; omega)⟩
  · rw [hv0] at e0; cases e0
    have hcells : ∀ j u, xs[j]? = some u → w.cell? ⟨g, 0 + j, none⟩ = some u := fun j u hj => by
      unfold World.cell?
      simp only [hg, Option.isSome_none, Bool.false_eq_true, if_false, Nat.zero_add]
      rw [← htake, List.getElem?_take] at hj
      split at hj
      · simpa using hj
      · cases hj
    by_cases hfit : n + m ≤ cap
    · have hl := hx.len
      have hf := hx.first w rfl
      have hmul : (n + m) * i.size ≤ cap * i.size := Nat.mul_le_mul_right _ hfit
      have hadd : (n + m) * i.size = n * i.size + m * i.size := Nat.add_mul _ _ _
      have hst := run_storeCells_at (P := P) g (n * i.size) e news 0 cur w hg (by simp only [Nat.add_zero]; rw [hx.size, hcs]; omega) hx.one
      simp only [Nat.add_zero] at hst
      have hadr : (⟨g, 0, none⟩ : Addr).add (n * i.size) = ⟨g, n * i.size, none⟩ := by rw [Addr.add_mid, Nat.zero_add]
      have hgr := setRow_heap w g cur (cur.toList.take (n * i.size) ++ news ++ cur.toList.drop (n * i.size + news.length)).toArray e (0, 0) hg
      refine ⟨.slice (some ⟨g, 0, none⟩) (n + m) cap, _, ?_, ⟨hlen, .inr ⟨g, cap, _, hc0, rfl, hgr, hfit, hcm, ?_, ?_⟩⟩, rfl, rfl, rfl, Nat.le_of_eq (setRow_size _ _ _).symm,
        fun k hk hne => setRow_ne _ _ _ _ fun e => hne ?_, fun k o hk ho => ?_, fun k hk => .inl ?_⟩
      · subst hv0
        rcases hd with ⟨e', rfl⟩ | rfl <;> simp [Builtin.append_, run_underlying ht, run_underlying htx, sizeOf, typeInfo, hi, hl, hf, hfit, hadr, hst]
      · simp only [List.size_toArray, List.length_append, List.length_take, List.length_drop, Array.length_toList]
        rw [hcs, hx.size]; omega
      · rw [htake, ← hlen]
        exact List.take_left
      · rw [hv0, e]; simp [hblk]; omega
      · rw [hv0] at hk
        simp [hblk] at hk
        obtain ⟨_, rfl⟩ := hk
        unfold World.cell?
        simp only [hgr, hg, Option.isSome_none, Bool.false_eq_true, if_false, List.getElem?_toArray]
        rw [List.append_assoc, List.getElem?_append, if_pos (by rw [List.length_take, Array.length_toList, hcs]; omega), List.getElem?_take, if_pos ho]
        simp
      · rw [hv0]; exact hk
    · have hold : ∀ w' : World, w'.heap = w.heap → (Builtin.firstCells i.size n hv).run P w' = .ok xs.toArray w' := fun w' hw' => by
        subst hv0
        have := run_loadCells_list (P := P) w' ⟨g, 0, none⟩ xs (fun j u hj => by
          rw [Addr.add_mid]
          have := hcells j u hj
          unfold World.cell? at this ⊢
          rw [hw']; exact this)
        rw [hown.1] at this
        simp [Builtin.firstCells, this]
      obtain ⟨w', h1, h2⟩ := grow (by omega) hold
      obtain ⟨g1, g2, g3, g4, g5, g6⟩ := grown (by omega) w' h2
      refine ⟨_, w', h1, g1, g2, g3, g4, g5, fun k hk _ => g6 k hk, fun k o hk ho => ?_, fun k hk => .inr (by simp [hblk] at hk; omega)⟩
      rw [hv0] at hk
      simp [hblk] at hk
      obtain ⟨_, rfl⟩ := hk
      exact World.cell?_of_block (g6 _ (Array.getElem?_eq_some_iff.1 hg).1)
end
end Go.Awp

/- AWP, text 11: slices that grow. -/
namespace Go.Awp
open Go

def bytesT (P : Program) (t : TypeId) : Option Nat := (P.info? t).map (·.bytes)

def chars (s : ByteArray) : List V := s.data.toList.map fun b => .int .u8 b.toNat

/-- The elements that a value brings along. -/
def srcV (P : Program) (get : Id → Option Blk) (n : Nat) (tx : TypeId) : V → Option (List V)
  | .slice xs => if sortT P tx = .slice ∧ xs.all (·.cells.length == n) = true then some xs else none
  | .snil => if sortT P tx = .slice then some [] else none
  | .str s => if sortT P tx = .str ∧ n = 1 then some (chars s) else none
  | .vec id ver => if sortT P tx = .slice then (get id).bind fun | .vec _ s es ver' _ => if ver = ver' ∧ s = n then some es else none | _ => none else none
  | .vsub id ver z lo len => if sortT P tx = .slice then (get id).bind fun | .vec _ s es ver' _ => if ver = ver' ∧ s = n ∧ z = n then some ((es.drop lo).take len) else none | _ => none else none
  | _ => none

def appV (P : Program) (get : Id → Option Blk) (j : Id) (t tx : TypeId) (s x : V) : Option (V × Upd) :=
  (elemT P t).bind fun el => (sizeT P el).bind fun n => (bytesT P el).bind fun bb => (zeroC P el).bind fun z => (srcV P get n tx x).bind fun xs =>
    if z.cells.length = n ∧ 0 < n then
      match s with
      | .vec id ver => (get id).bind fun
        | .vec t' s' es ver' wr =>
          if t' = el ∧ s' = n ∧ ver = ver' ∧ es.length + xs.length ≤ 9223372036854775807 ∧ (es.length + xs.length) * bb ≤ 140737488355328 then
            some (.vec id (ver + 1), .put id (.vec t' s' (es ++ xs) (ver + 1) wr)) else none
        | _ => none
      | .snil => if xs.length ≤ 9223372036854775807 ∧ xs.length * bb ≤ 140737488355328 then some (.vec j 1, .new (.vec el n xs 1 true)) else none
      | _ => none
    else none

section
variable {P : Program} {lk : Operand → Option V} {σ : Store} {j : Id} {E : Amb}

theorem srcV_sound {n : Nat} {tx : TypeId} {x : V} {cx : Value} {xs : List V} (h : srcV P σ.get n tx x = some xs) (hs : StoreRel E σ) (hx : Rep E x cx) :
    ∃ news d, Src P E.w n cx xs.length news ∧ RepL E (xs.flatMap V.cells) news ∧ (∀ e ∈ xs, e.cells.length = n ∧ e.ok) ∧ P.underlying tx = some d ∧ ((∃ e', d = .slice e') ∨ d = .string) := by
  unfold srcV at h
  split at h
  · split at h
    · rename_i hc
      cases h
      obtain ⟨d, hd⟩ := sortT_slice hc.1
      have hall : ∀ e ∈ xs, e.cells.length = n := fun e he => by simpa using (List.all_eq_true.1 hc.2) e he
      cases hx with
      | slice0 a c => exact ⟨[], _, ⟨rfl, fun w' _ => by cases a <;> simp [Builtin.firstCells, loadCells, loadCellsFrom], by simp, by simp⟩, .nil, by simp, hd, .inl ⟨_, rfl⟩⟩
      | @slice _ cvs b o cap s hl hcc hu hcap =>
        have hlen : cvs.length = xs.length * n := by rw [hl.length, flat_length hall]
        have hsc : ∀ c ∈ xs.flatMap V.cells, c.scalar = true := fun c hm => by
          obtain ⟨e, he, hm'⟩ := List.mem_flatMap.1 hm
          exact (hu e he).2 c hm'
        refine ⟨cvs, _, ⟨rfl, fun w' hw' => ?_, hlen, hl.scalars hsc⟩, hl, fun e he => ⟨hall e he, (hu e he).2⟩, hd, .inl ⟨_, rfl⟩⟩
        have := run_loadCells_list (P := P) w' ⟨b, o, none⟩ cvs (fun j u hj => by
          rw [Addr.add_mid]
          have := (hcc j u hj).1
          unfold World.cell? at this ⊢
          rw [hw']; exact this)
        rw [hlen] at this
        simp [Builtin.firstCells, this]
    · cases h
  · split at h
    · rename_i hc
      cases h
      obtain ⟨d, hd⟩ := sortT_slice hc
      cases hx with
      | snil a => exact ⟨[], _, ⟨rfl, fun w' _ => by cases a <;> simp [Builtin.firstCells, loadCells, loadCellsFrom], by simp, by simp⟩, .nil, by simp, hd, .inl ⟨_, rfl⟩⟩
    · cases h
  · rename_i s
    split at h
    · rename_i hc
      cases h
      obtain ⟨hc, rfl⟩ := hc
      cases hx
      have hl : (chars s).length = s.size := by simp [chars]
      have hr : ∀ (l : List UInt8), RepL E ((l.map fun b => V.int .u8 b.toNat).flatMap V.cells) (l.map fun b => Value.int .u8 b.toNat) := fun l => by
        induction l with
        | nil => exact .nil
        | cons a l ih => exact .cons (.int _ _) ih
      refine ⟨s.data.toList.map fun b : UInt8 => Value.int .u8 (b.toNat : Int), _, ⟨by rw [hl]; rfl, fun w' _ => ?_, ?_, ?_⟩, hr s.data.toList, ?_, sortT_str hc, .inr rfl⟩
      · rw [hl]
        simp only [Builtin.firstCells, Sem.run_pure]
        congr 1
        apply Array.ext'
        simp
      · simp [hl]
      · intro u hu
        obtain ⟨b, _, rfl⟩ := List.mem_map.1 hu
        rfl
      · intro e he
        obtain ⟨b, _, rfl⟩ := List.mem_map.1 he
        exact ⟨rfl, by simp [V.ok, V.cells, V.scalar]⟩
    · cases h
  · rename_i id ver
    split at h
    · rename_i hc
      obtain ⟨d, hd⟩ := sortT_slice hc
      obtain ⟨k, hk, h2⟩ := Option.bind_eq_some_iff.1 h
      split at h2
      · rename_i t' s' es ver' wr
        split at h2
        · rename_i hc2
          obtain ⟨rfl, rfl⟩ := hc2
          cases h2
          obtain ⟨hv, ys, eι, hown, hr, hes, h0, hI⟩ := hs.blk _ _ (Store.get_mem hk)
          have hcx : cx = hv := by
            cases hx with
            | vec h1 h2 h3 => rw [eι] at h1; cases h1; exact (h3 rfl).symm
          subst hcx
          have hall : ∀ e ∈ xs, e.cells.length = s' := fun e he => (hes e he).1
          have hsc : ∀ c ∈ xs.flatMap V.cells, c.scalar = true := fun c hm => by
            obtain ⟨e, he, hm'⟩ := List.mem_flatMap.1 hm
            exact (hes e he).2 c hm'
          refine ⟨ys, _, ⟨?_, fun w' hw' => ?_, hown.1, hr.scalars hsc⟩, hr, hes, hd, .inl ⟨_, rfl⟩⟩
          · rcases hown.2 with ⟨a, e1, e2⟩ | ⟨g, cap, cur, _, e1, _⟩
            · rw [e1, e2]; rfl
            · rw [e1]; rfl
          · rcases hown.2 with ⟨a, e1, e2⟩ | ⟨g, cap, cur, _, e1, hg, hcap, _, hsz, htk⟩
            · have : ys = [] := List.eq_nil_of_length_eq_zero (by rw [hown.1, e2]; simp)
              rw [e1, e2, this]
              cases a <;> simp [Builtin.firstCells, loadCells, loadCellsFrom]
            · have := run_loadCells_list (P := P) w' ⟨g, 0, none⟩ ys (fun j u hj => by
                rw [Addr.add_mid]
                unfold World.cell?
                simp only [hw', hg, Option.isSome_none, Bool.false_eq_true, if_false, Nat.zero_add]
                rw [← htk, List.getElem?_take] at hj
                split at hj
                · simpa using hj
                · cases hj)
              rw [hown.1] at this
              rw [e1]
              simp [Builtin.firstCells, this]
        · cases h2
      · cases h2
    · cases h
  · rename_i id ver z lo len
    split at h
    · rename_i hc
      obtain ⟨d, hd⟩ := sortT_slice hc
      obtain ⟨k, hk, h2⟩ := Option.bind_eq_some_iff.1 h
      split at h2
      · rename_i t' s' es ver' wr
        split at h2
        · rename_i hc2
          obtain ⟨rfl, rfl, rfl⟩ := hc2
          cases h2
          obtain ⟨hv, ys, eι, hown, hr, hes, h0, hI⟩ := hs.blk _ _ (Store.get_mem hk)
          obtain ⟨a, c, rfl, b, n0, c0, e0, hln, hnc, hcc, ha⟩ : ∃ a c, cx = .slice a len c ∧ ∃ b n c0, hv = .slice b n c0 ∧ lo + len ≤ n ∧ n ≤ c0 ∧ c = c0 - lo ∧ (lo < c0 → a = b.map (·.add (lo * z))) := by
            cases hx with
            | vsub h1 h2 h3 => rw [eι] at h1; cases h1; exact ⟨_, _, rfl, h3 rfl⟩
          have hn0 : n0 = es.length := by
            rcases hown.2 with ⟨a, e1, e2⟩ | ⟨g, cap, cur, _, e1, _⟩
            · rw [e0] at e1; cases e1; exact e2.symm
            · rw [e0] at e1; cases e1; rfl
          subst hn0
          have hlen : ((es.drop lo).take len).length = len := by simp; omega
          have hsub : ∀ e ∈ (es.drop lo).take len, e.cells.length = z ∧ e.ok := fun e he => hes e (List.mem_of_mem_drop (List.mem_of_mem_take he))
          have hflat : ((es.drop lo).take len).flatMap V.cells = ((es.flatMap V.cells).drop (lo * z)).take (len * z) := drop_take_flat (fun e he => (hes e he).1) lo len
          have hrep : RepL E (((es.drop lo).take len).flatMap V.cells) ((ys.drop (lo * z)).take (len * z)) := by rw [hflat]; exact (hr.drop _).take _
          have hsc : ∀ c ∈ ((es.drop lo).take len).flatMap V.cells, c.scalar = true := fun c hm => by
            obtain ⟨e, he, hm'⟩ := List.mem_flatMap.1 hm
            exact (hsub e he).2 c hm'
          have hsz : ((ys.drop (lo * z)).take (len * z)).length = len * z := by
            have hmul : lo * z + len * z ≤ es.length * z := by rw [← Nat.add_mul]; exact Nat.mul_le_mul_right _ hln
            have := hown.1
            simp only [List.length_take, List.length_drop]; omega
          rw [hlen]
          refine ⟨(ys.drop (lo * z)).take (len * z), _, ⟨rfl, fun w' hw' => ?_, hsz, hrep.scalars hsc⟩, hrep, hsub, hd, .inl ⟨_, rfl⟩⟩
          by_cases hl0 : len = 0
          · subst hl0
            cases a <;> simp [Builtin.firstCells, loadCells, loadCellsFrom]
          · rcases hown.2 with ⟨a, e1, e2⟩ | ⟨g, cap, cur, _, e1, hg, hcap, _, hcs, htk⟩
            · omega
            · rw [e0] at e1; cases e1
              have ha := ha (by omega)
              simp only [Option.map_some, Addr.add_mid, Nat.zero_add] at ha
              subst ha
              have := run_loadCells_list (P := P) w' ⟨g, lo * z, none⟩ ((ys.drop (lo * z)).take (len * z)) (fun j u hj => by
                rw [Addr.add_mid]
                unfold World.cell?
                simp only [hw', hg, Option.isSome_none, Bool.false_eq_true, if_false]
                rw [List.getElem?_take] at hj
                split at hj
                · rw [List.getElem?_drop, ← htk, List.getElem?_take] at hj
                  split at hj
                  · simpa using hj
                  · cases hj
                · cases hj)
              rw [hsz] at this
              simp [Builtin.firstCells, this]
        · cases h2
      · cases h2
    · cases h
  · cases h

/-- The slice in one's own store has another array, or more in it. -/
theorem write_vec (h : StoreRel E σ) {id : Id} {k k' : Blk} (hm : (id, k) ∈ σ) (hv' : Value) (ver' : Nat) (w' : World) (hle : (E.ι id).Le (.vec hv' ver'))
    (hos : w'.os = E.w.os) (htape : w'.tape = E.w.tape) (hout : w'.output = E.w.output) (hsz : E.w.heap.size ≤ w'.heap.size)
    (hoth : ∀ i, i < E.w.heap.size → (E.ι id).block ≠ some i → w'.heap[i]? = E.w.heap[i]?)
    (hI : ∀ b, (E.ι id).block = some b → ∀ o, E.I b o → w'.cell? ⟨b, o, none⟩ = E.w.cell? ⟨b, o, none⟩)
    (hnew : ∀ b, hblk hv' = some b → (E.ι id).block = some b ∨ E.w.heap.size ≤ b) :
    let E' : Amb := { I := E.I, ι := fun i => if i = id then .vec hv' ver' else E.ι i, w := w' }
    (E.Le E' → BlkRel E' id k') → StoreRel E' (σ.put id k') ∧ Grow E σ E' (σ.put id k') ∧ ∀ i, E.ι i = .unborn → E'.ι i = .unborn := by
  intro E' hk'
  have hid : id ∈ σ.keys := List.mem_map.2 ⟨_, hm, rfl⟩
  have hborn : E.ι id ≠ .unborn := (h.blk _ _ hm).born
  have old : ∀ i, i ≠ id → E'.ι i = E.ι i := fun i hi => by simp [E', hi]
  have new : E'.ι id = .vec hv' ver' := by simp [E']
  have hle : E.Le E' := by
    refine ⟨fun _ _ h => h, fun c o hi => ?_, fun i => ?_⟩
    · by_cases e : (E.ι id).block = some c
      · exact hI c e o hi
      · exact World.cell?_of_block (hoth c (h.imm c o hi) e)
    · by_cases e : i = id
      · subst e; rw [new]; exact hle
      · rw [old i e]; exact Loc.Le.refl _
  refine ⟨?_, ?_, fun i hi => by rw [old i (fun e => hborn (e ▸ hi))]; exact hi⟩
  · refine ⟨fun i x hx => ?_, by rw [Store.put_keys]; exact h.nodup, fun i i' hi hi' hne b hb hb' => ?_, fun c o hi => Nat.lt_of_lt_of_le (h.imm c o hi) hsz, ?_⟩
    · rcases Store.mem_put hx with e | ⟨hx, hne⟩
      · cases e; exact hk' hle
      · have hne := hne h.nodup
        have hi : i ∈ σ.keys := List.mem_map.2 ⟨_, hx, rfl⟩
        refine (h.blk i x hx).keep hle (old i hne) (fun c hc => hoth c ((h.blk i x hx).size hc) fun e => ?_) fun _ _ _ hi => hi
        exact h.apart i id hi hid hne c hc e
    · rw [Store.put_keys] at hi hi'
      have far : ∀ i, i ∈ σ.keys → i ≠ id → ∀ b, (E.ι i).block = some b → (E'.ι id).block ≠ some b := fun i hi hne b hb hb' => by
        rw [new] at hb'
        rcases hnew b hb' with e | e
        · exact h.apart i id hi hid hne b hb e
        · obtain ⟨kk, _, hkk⟩ := h.mem hi
          have := hkk.size hb; omega
      by_cases e : i = id
      · subst e
        have e' : i' ≠ i := fun e => hne e.symm
        rw [old i' e'] at hb'
        exact far i' hi' e' b hb' hb
      · rw [old i e] at hb
        by_cases e' : i' = id
        · subst e'; exact far i hi e b hb hb'
        · rw [old i' e'] at hb'; exact h.apart i i' hi hi' hne b hb hb'
    · obtain ⟨N, hN⟩ := h.fin
      refine ⟨N, fun i hi => ?_⟩
      rw [old i (fun e => hborn (e ▸ hN i hi))]
      exact hN i hi
  · refine ⟨hle, fun c hc ho => hoth c hc fun e => ho ⟨id, hid, e⟩, fun _ _ hi => .inl hi, fun i hn hu => old i fun e => hn (e ▸ hid), fun i hi => .inl (by rw [Store.put_keys] at hi; exact hi), fun c ⟨i, hi, hc⟩ => ?_, hos, htape, hout, hsz⟩
    rw [Store.put_keys] at hi
    by_cases e : i = id
    · subst e
      rw [new] at hc
      rcases hnew c hc with e | e
      · exact .inr ⟨i, hid, e⟩
      · exact .inl e
    · rw [old i e] at hc; exact .inr ⟨i, hi, hc⟩

/-- A name for a slice that has no array yet. -/
theorem thaw (h : StoreRel E σ) (hj : E.ι j = .unborn) (t : TypeId) (s : Nat) (h0 : 0 < s) (a : Option Addr) :
    let E' : Amb := { I := E.I, ι := fun i => if i = j then .vec (.slice a 0 0) 0 else E.ι i, w := E.w }
    StoreRel E' ((j, .vec t s [] 0 true) :: σ) ∧ Grow E σ E' ((j, .vec t s [] 0 true) :: σ) ∧ ∀ i, i ≠ j → E.ι i = .unborn → E'.ι i = .unborn := by
  intro E'
  have hjσ : j ∉ σ.keys := fun hm => by obtain ⟨k, _, hk⟩ := h.mem hm; exact hk.born hj
  have old : ∀ i, i ≠ j → E'.ι i = E.ι i := fun i hi => by simp [E', hi]
  have new : E'.ι j = .vec (.slice a 0 0) 0 := by simp [E']
  have hnb : hblk (.slice a 0 0) = none := by cases a <;> rfl
  have hle : E.Le E' := by
    refine ⟨fun _ _ h => h, fun _ _ _ => rfl, fun i => ?_⟩
    by_cases e : i = j
    · subst e; rw [hj]; trivial
    · rw [old i e]; exact Loc.Le.refl _
  have key : ∀ i, i ∈ Store.keys ((j, .vec t s [] 0 true) :: σ) → i = j ∨ (i ∈ σ.keys ∧ i ≠ j) := fun i hi => by
    rcases List.mem_cons.1 hi with e | hi
    · exact .inl e
    · exact .inr ⟨hi, fun e => hjσ (e ▸ hi)⟩
  refine ⟨⟨fun i x hx => ?_, List.nodup_cons.2 ⟨hjσ, h.nodup⟩, fun i i' hi hi' hne b hb hb' => ?_, h.imm, ?_⟩, ?_, fun i hi hu => by rw [old i hi]; exact hu⟩
  · rcases List.mem_cons.1 hx with e | hx
    · cases e
      exact ⟨.slice a 0 0, [], new, ⟨by simp, .inl ⟨a, rfl, rfl⟩⟩, .nil, by simp, h0, fun b hb => by rw [hnb] at hb; cases hb⟩
    · have hi : i ∈ σ.keys := List.mem_map.2 ⟨_, hx, rfl⟩
      exact (h.blk i x hx).keep hle (old i fun e => hjσ (e ▸ hi)) (fun _ _ => rfl) fun _ _ _ hi => hi
  · rcases key i hi with e | ⟨hi, e⟩
    · rw [e, new] at hb; simp [Loc.block, hnb] at hb
    · rcases key i' hi' with e' | ⟨hi', e'⟩
      · rw [e', new] at hb'; simp [Loc.block, hnb] at hb'
      · rw [old i e] at hb; rw [old i' e'] at hb'; exact h.apart i i' hi hi' hne b hb hb'
  · obtain ⟨N, hN⟩ := h.fin
    refine ⟨max N (j.1 + 1), fun i hi => ?_⟩
    rw [old i (fun e => by subst e; omega)]
    exact hN i (by omega)
  · refine ⟨hle, fun _ _ _ => rfl, fun _ _ hi => .inl hi, fun i hn hu => old i fun e => hu (e ▸ hj), fun i hi => ?_, fun c ⟨i, hi, hc⟩ => ?_, rfl, rfl, rfl, Nat.le_refl _⟩
    · rcases key i hi with e | ⟨hi, _⟩
      · exact .inr (e ▸ hj)
      · exact .inl hi
    · rcases key i hi with e | ⟨hi, e⟩
      · rw [e, new] at hc; simp [Loc.block, hnb] at hc
      · rw [old i e] at hc; exact .inr ⟨i, hi, hc⟩

theorem bytesT_spec {t n : Nat} (h : bytesT P t = some n) : ∃ i, P.info? t = some i ∧ i.bytes = n := by
  obtain ⟨i, h1, h2⟩ := Option.map_eq_some_iff.1 h
  exact ⟨i, h1, h2⟩
theorem sizeT_spec {t n : Nat} (h : sizeT P t = some n) : ∃ i, P.info? t = some i ∧ i.size = n := by
  obtain ⟨i, h1, h2⟩ := Option.map_eq_some_iff.1 h
  exact ⟨i, h1, h2⟩
end
end Go.Awp

/- AWP, text 12: the operations on growing slices, and on what is built. -/
namespace Go.Awp
open Go

def placesT (P : Program) (t : TypeId) : Option (List (Nat × Nat)) :=
  (P.underlying t).bind fun | .struct fs => fs.toList.mapM (fun f => (P.info? f.type).map fun i => (f.offset, i.size)) | _ => none

def fillV (place : Nat → Option (Nat × Nat)) : List (Nat × V) → List V → Option (List V)
  | [], cs => some cs
  | (i, v) :: r, cs => (place i).bind fun p => if v.wf = true ∧ v.cells.length = p.2 ∧ p.1 + p.2 ≤ cs.length then fillV place r (setL cs p.1 v.cells) else none

def buildV (P : Program) (t : TypeId) (ps : List (Nat × V)) : Option V :=
  (zeroC P t).bind fun z => match placesT P t with
    | some pl => (fillV (pl[·]?) ps z.cells).map .agg
    | none => (arrT P t).bind fun me => (sizeT P me.2).bind fun n => (fillV (fun i => some (i * n, n)) ps z.cells).map .agg

def litV (P : Program) (t : TypeId) (len : Nat) (ps : List (Nat × V)) : Option (List V) :=
  (elemT P t).bind fun el => (sizeT P el).bind fun n => (zeroC P el).bind fun z =>
    if ps.map (·.1) = List.range len ∧ len * n ≤ 16777216 ∧ z.cells.length = n ∧ (∀ p ∈ ps, p.2.wf = true ∧ p.2.cells.length = n) then some (ps.map (·.2)) else none

def vecOp (P : Program) (lk : Operand → Option V) (get : Id → Option Blk) (j : Id) : Op → Option (V × Upd)
  | .call c => match c.callee, c.args.toList, c.argTypes.toList with
    | .builtin .append, [s, x], [t, tx] => (lk s).bind fun s => (lk x).bind fun x => appV P get j t tx s x
    | .builtin .len, [x], [t] => (lk x).bind fun
      | .vec id ver => if sortT P t = .slice then (get id).bind fun | .vec _ _ es ver' _ => if ver = ver' then some (.int .i64 es.length, .none) else none | _ => none else none
      | _ => none
    | _, _, _ => none
  | .indexAddr t x i => (lk x).bind fun v => (lk i).bind fun k => match v, k with
    | .vec id ver, .int _ k => (elemT P t).bind fun el => (sizeT P el).bind fun n => (get id).bind fun
      | .vec _ s es ver' _ => if ver = ver' ∧ s = n ∧ 0 ≤ k ∧ k.toNat < es.length then some (.eptr id ver s k.toNat 0, .none) else none
      | _ => none
    | _, _ => none
  | .makeSlice t l c => (lk l).bind fun l => (lk c).bind fun c => match l, c with
    | .int _ n, .int _ m => (elemT P t).bind fun el => (sizeT P el).bind fun s => (bytesT P el).bind fun bb => (zeroC P el).bind fun z =>
        if 0 ≤ n ∧ n ≤ m ∧ m ≤ 9223372036854775807 ∧ m.toNat * bb ≤ 140737488355328 ∧ z.cells.length = s ∧ 0 < s then some (.vec j 1, .new (.vec el s (List.replicate n.toNat z) 1 true)) else none
    | _, _ => none
  | .build t ps => (partsV lk ps.toList).bind fun ps => (buildV P t ps).map (·, .none)
  | .buildSlice t len ps => (partsV lk ps.toList).bind fun ps => (litV P t len ps).map fun es => (if len = 0 then .snil else .slice es, .none)
  | _ => none

section
variable {P : Program} {lk : Operand → Option V} {σ : Store} {j : Id} {E : Amb}

theorem RepL.of_get {vs : List V} {cvs : List Value} (hl : cvs.length = vs.length) (h : ∀ (i : Nat) v cv, vs[i]? = some v → cvs[i]? = some cv → Rep E v cv) : RepL E vs cvs := by
  induction vs generalizing cvs with
  | nil => cases cvs with | nil => exact .nil | cons => simp at hl
  | cons v vs ih =>
    cases cvs with
    | nil => simp at hl
    | cons c cs => exact .cons (h 0 v c rfl rfl) (ih (by simpa using hl) fun i u cu h1 h2 => h (i + 1) u cu (by simpa using h1) (by simpa using h2))

theorem fillV_sound {place : Nat → Option (Nat × Nat)} {ps : List (Nat × V)} {cs cs' : List V} {cps : List (Nat × Value)} {cells : Array Value} (h : fillV place ps cs = some cs')
    (hp : cps.map (·.1) = ps.map (·.1)) (hr : RepL E (ps.map (·.2)) (cps.map (·.2))) (hc : RepL E cs cells.toList) (hs : ∀ c ∈ cs, c.scalar = true) :
    ∃ cells', Instr.fill place cells cps = some cells' ∧ RepL E cs' cells'.toList ∧ (∀ c ∈ cs', c.scalar = true) ∧ cs'.length = cs.length := by
  induction ps generalizing cs cps cells with
  | nil =>
    cases cps with
    | nil => simp [fillV] at h; subst h; exact ⟨cells, rfl, hc, hs, rfl⟩
    | cons => simp at hp
  | cons p ps ih =>
    obtain ⟨i, v⟩ := p
    cases cps with
    | nil => simp at hp
    | cons q qs =>
      obtain ⟨i', cv⟩ := q
      simp only [List.map_cons, List.cons.injEq] at hp hr
      obtain ⟨rfl, hp⟩ := hp
      cases hr with
      | cons hv hr =>
        simp only [fillV] at h
        obtain ⟨⟨o, n⟩, hpl, h1⟩ := Option.bind_eq_some_iff.1 h
        split at h1
        · rename_i hcnd
          obtain ⟨hw, hn, hle⟩ := hcnd
          simp only at hn hle
          have hcc := hv.cells hw
          have hlen : cv.cells.size = n := by rw [← hn]; simpa using hcc.1.length
          have hcl : cells.size = cs.length := by simpa using hc.length
          have hfold : ∀ (l : List Value) (k : Nat) (a : Array Value), o + k + l.length ≤ a.size →
              ((l.zipIdx k).foldl (fun cs (x : Value × Nat) => cs.setIfInBounds (o + x.2) x.1) a).toList = a.toList.take (o + k) ++ l ++ a.toList.drop (o + k + l.length) := by
            intro l
            induction l with
            | nil => intro k a _; simp
            | cons x l ihl =>
              intro k a ha
              simp only [List.zipIdx_cons, List.foldl_cons]
              rw [ihl (k + 1) _ (by simp at ha ⊢; omega)]
              simp only [Array.toList_setIfInBounds]
              apply List.ext_getElem?
              intro q
              simp only [List.length_cons] at ha
              simp only [List.getElem?_append, List.getElem?_take, List.getElem?_drop, List.getElem?_set, List.length_append, List.length_take, List.length_set, Array.length_toList, List.length_cons]
              repeat' split
              all_goals first
                | rfl
                | omega
                | (congr 1; omega)
                | (rename_i h; rw [show q - min (o + k) a.size = (q - min (o + (k + 1)) a.size) + 1 by omega]; simp)
                | (have : q - min (o + k) a.size = 0 := by omega
                   rw [this]; rfl)
                | simp_all
          have hstep : (cv.cells.zipIdx.foldl (fun cs (x : Value × Nat) => cs.setIfInBounds (o + x.2) x.1) cells).toList = cells.toList.take o ++ cv.cells.toList ++ cells.toList.drop (o + cv.cells.toList.length) := by
            have := hfold cv.cells.toList 0 cells (by simp; omega)
            simp only [Nat.add_zero] at this
            rw [← this, ← Array.foldl_toList, Array.toList_zipIdx]
          obtain ⟨cells', h2, h3, h4, h5⟩ := ih (cells := cv.cells.zipIdx.foldl (fun cs (x : Value × Nat) => cs.setIfInBounds (o + x.2) x.1) cells) h1 hp hr (by rw [hstep]; exact hc.setL hcc.1 o) (fun c hm => by
            rcases setL_mem hm with hm | hm
            · exact hs c hm
            · exact hcc.2 c hm)
          refine ⟨cells', ?_, h3, h4, by rw [h5, setL_length (by omega)]⟩
          simp only [Instr.fill, hpl]
          rw [if_neg (by simp [hlen]; omega)]
          exact h2
        · cases h1

theorem partsV_rep {ps : List (Nat × Operand)} {vs : List (Nat × V)} {ρ : Operand → Value} (h : partsV lk ps = some vs) (hρ : ∀ p ∈ ps, ∀ v, lk p.2 = some v → Rep E v (ρ p.2)) :
    (ps.map fun p => (p.1, ρ p.2)).map (·.1) = vs.map (·.1) ∧ RepL E (vs.map (·.2)) ((ps.map fun p => (p.1, ρ p.2)).map (·.2)) := by
  induction ps generalizing vs with
  | nil => simp [partsV] at h; subst h; exact ⟨rfl, .nil⟩
  | cons p ps ih =>
    obtain ⟨i, x⟩ := p
    simp only [partsV] at h
    obtain ⟨v, hv, h1⟩ := Option.bind_eq_some_iff.1 h
    obtain ⟨us, hu, h2⟩ := Option.bind_eq_some_iff.1 h1
    cases h2
    have h3 := ih hu fun q hq => hρ q (by simp [hq])
    exact ⟨by simpa using h3.1, .cons (hρ (i, x) (by simp) v hv) h3.2⟩

theorem buildV_sound {t : TypeId} {ps : List (Nat × V)} {v : V} {cps : List (Nat × Value)} (h : buildV P t ps = some v) (hp : cps.map (·.1) = ps.map (·.1)) (hr : RepL E (ps.map (·.2)) (cps.map (·.2))) :
    ∃ cv, (Instr.build t cps.toArray).run P E.w = .ok cv E.w ∧ Rep E v cv := by
  unfold buildV at h
  obtain ⟨z, hz, h1⟩ := Option.bind_eq_some_iff.1 h
  obtain ⟨cz, hz0, hzv⟩ := Option.bind_eq_some_iff.1 (show ((P.info? t).bind (·.zero)).bind ofV = some z from hz)
  obtain ⟨it, hit, hz1⟩ := Option.bind_eq_some_iff.1 hz0
  have hzr := ofV_rep (E := E) hzv
  have hzw : z.wf = true := by
    have h2 := hzr.2
    cases z <;> first | rfl | (have := h2 _ (by simp [V.cells]; rfl); simp [V.scalar] at this)
  have hzc := hzr.1.cells hzw
  split at h1
  · rename_i pl hpl
    obtain ⟨cs, hcs, rfl⟩ := Option.map_eq_some_iff.1 h1
    obtain ⟨cells', h2, h3, h4, _⟩ := fillV_sound hcs hp hr hzc.1 hzc.2
    refine ⟨.agg cells', ?_, by have := Rep.agg h3 h4; simpa using this⟩
    apply run_build
    unfold placesT at hpl
    obtain ⟨d, hd, hpl⟩ := Option.bind_eq_some_iff.1 hpl
    cases d <;> simp at hpl
    rename_i fs
    unfold Program.built
    simp only [hit, hd, hz1]
    simp only [hpl]
    simpa using h2
  · obtain ⟨⟨m, e⟩, he, h2⟩ := Option.bind_eq_some_iff.1 h1
    obtain ⟨n, hn, h3⟩ := Option.bind_eq_some_iff.1 h2
    obtain ⟨cs, hcs, rfl⟩ := Option.map_eq_some_iff.1 h3
    obtain ⟨cells', h4, h5, h6, _⟩ := fillV_sound hcs hp hr hzc.1 hzc.2
    refine ⟨.agg cells', ?_, by have := Rep.agg h5 h6; simpa using this⟩
    apply run_build
    obtain ⟨ie, hie, rfl⟩ := sizeT_spec hn
    unfold Program.built
    simp only [hit, arrT_spec he, hz1]
    simp only at hie
    simp only [hie]
    exact h4

theorem fill_all {n : Nat} : ∀ (ps : List (Nat × V)) (k : Nat) (cs : List V), ps.map (·.1) = List.range' k ps.length → (∀ p ∈ ps, p.2.wf = true ∧ p.2.cells.length = n) → cs.length = (k + ps.length) * n →
    fillV (fun i => some (i * n, n)) ps cs = some (cs.take (k * n) ++ (ps.map (·.2)).flatMap V.cells)
  | [], k, cs, _, _, hl => by
    simp only [List.length_nil, Nat.add_zero] at hl
    simp only [fillV, List.map_nil, List.flatMap_nil, List.append_nil]
    rw [← hl, List.take_length]
  | (i, v) :: ps, k, cs, hm, hp, hl => by
    simp only [List.map_cons, List.length_cons, List.range'_succ, List.cons.injEq] at hm
    obtain ⟨rfl, hm⟩ := hm
    have hv := hp (i, v) (by simp)
    simp only at hv
    simp only [List.length_cons] at hl
    have e1 : (i + (ps.length + 1)) * n = i * n + n + ps.length * n := by
      rw [← Nat.succ_mul, ← Nat.add_mul]; congr 1; omega
    simp only [fillV, Option.bind_some]
    rw [if_pos ⟨hv.1, hv.2, by omega⟩]
    have hl2 : (setL cs (i * n) v.cells).length = (i + 1 + ps.length) * n := by
      rw [setL_length (by omega), hl]; congr 1; omega
    rw [fill_all ps (i + 1) _ hm (fun p hp' => hp p (by simp [hp'])) hl2]
    simp only [List.map_cons, List.flatMap_cons]
    rw [← List.append_assoc]
    congr 2
    unfold setL
    rw [Nat.succ_mul, List.append_assoc, List.take_append, List.take_take]
    have e2 : (cs.take (i * n)).length = i * n := by simp; omega
    rw [e2, Nat.min_eq_right (by omega), Nat.add_sub_cancel_left, List.take_append_of_le_length (by omega), ← hv.2, List.take_length]

theorem zeros_rep {n m : Nat} {z : V} {zc : Array Value} (hr : RepL E z.cells zc.toList) (hz : z.cells.length = n) (h0 : 0 < n) :
    RepL E ((List.replicate m z).flatMap V.cells) ((Array.range (m * n)).map fun k => zc[k % zc.size]!).toList := by
  have hu : ∀ e ∈ List.replicate m z, e.cells.length = n := fun e he => by rw [(List.mem_replicate.1 he).2, hz]
  have hzs : zc.size = n := by rw [← hz]; simpa using hr.length
  refine RepL.of_get (by rw [flat_length hu]; simp) fun k v cv hv hc => ?_
  have hk : k < m * n := by
    have := (List.getElem?_eq_some_iff.1 hc).1
    simpa using this
  have hdiv : k / n < m := Nat.div_lt_of_lt_mul (by rw [Nat.mul_comm]; exact hk)
  have hmod : k % n < n := Nat.mod_lt _ h0
  have hget := flat_get hu (i := k / n) (e := z) (by rw [List.getElem?_replicate, if_pos hdiv]) hmod
  rw [Nat.mul_comm, Nat.div_add_mod] at hget
  rw [hget] at hv
  obtain ⟨cu, h1, h2⟩ := hr.get hv
  have : cv = cu := by
    simp only [Array.toList_map, List.getElem?_map] at hc
    have e3 : (Array.range (m * n)).toList[k]? = some k := by simp [hk]
    rw [e3] at hc
    simp only [Option.map_some, Option.some.injEq] at hc
    rw [← hc, hzs]
    have h1' : zc[k % n]? = some cu := by simpa using h1
    simp [getElem!_def, h1']
  rw [this]; exact h2

theorem litV_sound {t len : Nat} {ps : List (Nat × V)} {es : List V} {cps : List (Nat × Value)} (h : litV P t len ps = some es) (hs : StoreRel E σ) (hp : cps.map (·.1) = ps.map (·.1)) (hr : RepL E (ps.map (·.2)) (cps.map (·.2))) :
    ∃ E' cv, (Instr.buildSlice t len cps.toArray).run P E.w = .ok cv E'.w ∧ Rep E' (if len = 0 then .snil else .slice es) cv ∧ StoreRel E' σ ∧ Grow E σ E' σ ∧ ∀ id, E.ι id = .unborn → E'.ι id = .unborn := by
  unfold litV at h
  obtain ⟨el, he, h1⟩ := Option.bind_eq_some_iff.1 h
  obtain ⟨n, hn, h2⟩ := Option.bind_eq_some_iff.1 h1
  obtain ⟨z, hz, h3⟩ := Option.bind_eq_some_iff.1 h2
  split at h3
  · rename_i hc
    obtain ⟨hm, hsmall, hzn, hall⟩ := hc
    cases h3
    have hlen : ps.length = len := by have := congrArg List.length hm; simpa using this
    obtain ⟨cz, hzrun, hzrep, hzok, hzl⟩ := zeroC_run hz E
    have hu := elemT_spec he
    have hcases : ∃ cells : Array Value, (Instr.buildSlice t len cps.toArray).run P E.w = .ok (.slice (some ⟨E.w.heap.size, 0, none⟩) len len) (E.w.alloc (.cells cells el)) ∧ RepL E ((ps.map (·.2)).flatMap V.cells) cells.toList := by
      have hfa := fill_all (n := n) ps 0
      by_cases h0 : len * n = 0
      · obtain ⟨cells', hf, hcr, _, _⟩ := fillV_sound (cells := #[]) (hfa [] (by rw [hm, hlen, List.range_eq_range']) hall (by rw [Nat.zero_add, hlen, h0]; rfl)) hp hr .nil (by simp)
        refine ⟨cells', ?_, by simpa using hcr⟩
        have : ¬ len * n > 2 ^ 24 := by omega
        have hr0 : Array.range 0 = #[] := rfl
        simp [Instr.buildSlice, run_underlying hu, run_sizeOf' hn, h0, hr0, hf, newRow]
      · have hn0 : 0 < n := by rcases Nat.eq_zero_or_pos n with e | e; subst e; simp at h0; exact e
        have hzr := zeros_rep (m := len) hzl hzn hn0
        have hrl : ((List.replicate len z).flatMap V.cells).length = len * n := by
          rw [flat_length (s := n) fun e he => by rw [(List.mem_replicate.1 he).2, hzn]]; simp
        obtain ⟨cells', hf, hcr, _, _⟩ := fillV_sound (hfa _ (by rw [hm, hlen, List.range_eq_range']) hall (by rw [hrl, Nat.zero_add, hlen])) hp hr hzr
          (fun c hm => by obtain ⟨e, he, hm'⟩ := List.mem_flatMap.1 hm; rw [(List.mem_replicate.1 he).2] at hm'; exact hzok c hm')
        refine ⟨cells', ?_, by simpa using hcr⟩
        have : ¬ len * n > 2 ^ 24 := by omega
        simp [Instr.buildSlice, run_underlying hu, run_sizeOf' hn, h0, hf, newRow, hzrun]
        omega
    obtain ⟨cells, hrun, hcr⟩ := hcases
    obtain ⟨hle, hs', hg, hb, hcell⟩ := alloc_imm hs cells el
    refine ⟨_, _, hrun, ?_, hs', hg, hb⟩
    split
    · rename_i h0; subst h0; exact .snil _
    · have hok : ∀ e ∈ ps.map (·.2), e.cells.length = n ∧ e.ok := fun e he => by
        obtain ⟨p, hp', rfl⟩ := List.mem_map.1 he
        obtain ⟨i, hi⟩ := List.getElem?_of_mem he
        obtain ⟨cv, _, hrep⟩ := hr.get hi
        exact ⟨(hall p hp').2, (hrep.cells (hall p hp').1).2⟩
      have := Rep.slice (E := E.alloc (.cells cells el) none) (cap := len) (hcr.mono hle) (b := E.w.heap.size) (o := 0) (fun j u hj => by rw [Nat.zero_add]; exact hcell j u (by simpa using hj)) hok (by simp [hlen])
      rw [show (ps.map (·.2)).length = len by simp [hlen]] at this
      exact this
  · cases h3

theorem vec_inv {id : Id} {ver : Nat} {cx : Value} {t : TypeId} {s : Nat} {es : List V} {wr : Bool} (hx : Rep E (.vec id ver) cx) (hb : BlkRel E id (.vec t s es ver wr)) :
    ∃ hv xs, E.ι id = .vec hv ver ∧ cx = hv ∧ Owns E.w t s hv es.length xs ∧ RepL E (es.flatMap V.cells) xs ∧ (∀ e ∈ es, e.cells.length = s ∧ e.ok) ∧ 0 < s ∧ ∀ b, hblk hv = some b → ∀ o, E.I b o → wr = false ∧ o < es.length * s := by
  obtain ⟨hv, xs, e, ho, hr, hs, h0, hI⟩ := hb
  cases hx with
  | vec h1 h2 h3 => rw [e] at h1; cases h1; exact ⟨_, xs, e, (h3 rfl).symm, ho, hr, hs, h0, hI⟩

theorem Owns.shape {w : World} {t s n : Nat} {hv : Value} {xs : List Value} (h : Owns w t s hv n xs) : ∃ a c, hv = .slice a n c := by
  rcases h.2 with ⟨a, rfl, rfl⟩ | ⟨g, cap, cur, _, rfl, _⟩ <;> exact ⟨_, _, rfl⟩

theorem appV_sound {t tx ty : TypeId} {s x v : V} {cs cx : Value} {u : Upd} (h : appV P σ.get j t tx s x = some (v, u)) (hst : StoreRel E σ) (hj : E.ι j = .unborn) (hs : Rep E s cs) (hx : Rep E x cx) :
    ∃ E' cv, (Builtin.append_ #[t, tx] ty #[cs, cx]).run P E.w = .ok cv E'.w ∧ Rep E' v cv ∧ StoreRel E' (u.app σ j) ∧ Grow E σ E' (u.app σ j) ∧ ∀ id, (u.isNew = true → id ≠ j) → E.ι id = .unborn → E'.ι id = .unborn := by
  unfold appV at h
  obtain ⟨el, he, h⟩ := Option.bind_eq_some_iff.1 h
  obtain ⟨n, hn, h1⟩ := Option.bind_eq_some_iff.1 h
  obtain ⟨bb, hbb, h2⟩ := Option.bind_eq_some_iff.1 h1
  obtain ⟨z, hz, h3⟩ := Option.bind_eq_some_iff.1 h2
  obtain ⟨xs, hxs, h4⟩ := Option.bind_eq_some_iff.1 h3
  clear h h1 h2 h3
  obtain ⟨news, d, hsrc, hnr, hxe, htx, hd⟩ := srcV_sound hxs hst hx
  obtain ⟨cz, hz0, hzv⟩ := Option.bind_eq_some_iff.1 (show ((P.info? el).bind (·.zero)).bind ofV = some z from hz)
  obtain ⟨i, hi, hz1⟩ := Option.bind_eq_some_iff.1 hz0
  have hin : i.size = n := by obtain ⟨i', e1, e2⟩ := sizeT_spec hn; rw [hi] at e1; cases e1; exact e2
  have hib : i.bytes = bb := by obtain ⟨i', e1, e2⟩ := bytesT_spec hbb; rw [hi] at e1; cases e1; exact e2
  subst hin; subst hib
  have hzr := ofV_rep (E := E) hzv
  have hzw : z.wf = true := by
    have h2 := hzr.2
    cases z <;> first | rfl | (have := h2 _ (by simp [V.cells]; rfl); simp [V.scalar] at this)
  have hzc := (hzr.1.cells hzw).1
  split at h4
  · rename_i hcond
    obtain ⟨hzn, hn0⟩ := hcond
    have hzs : cz.cells.size = i.size := by rw [← hzn]; simpa using hzc.length
    split at h4
    · rename_i id ver
      obtain ⟨k, hk, h5⟩ := Option.bind_eq_some_iff.1 h4
      split at h5
      · rename_i t' s' es ver' wr
        split at h5
        · rename_i hc
          obtain ⟨rfl, rfl, rfl, hb1, hb2⟩ := hc
          cases h5
          have hm := Store.get_mem hk
          obtain ⟨hv, ys, eι, rfl, hown, hr, hes, h0, hI⟩ := vec_inv hs (hst.blk _ _ hm)
          obtain ⟨hv', w', hrun, hown', hos, htape, hout, hsz, hoth, hcell, hnew⟩ := append_owns (ty := ty) (elemT_spec he) htx hd hi hz1 hzs hown hsrc (by simp only [maxLen]; omega) hb2
          have hblk : (E.ι id).block = hblk cs := by rw [eι]; rfl
          have key := write_vec hst hm hv' (ver + 1) w' (k' := .vec t' i.size (es ++ xs) (ver + 1) wr) (by rw [eι]; exact ⟨_, _, rfl, Nat.le_succ _, fun e => absurd e (by omega)⟩) hos htape hout hsz
            (fun k hk hne => hoth k hk (by rw [← hblk]; exact hne))
            (fun b hb o hi => hcell b o (by rw [← hblk]; exact hb) ((hI b (by rw [← hblk]; exact hb) o hi).2))
            (fun b hb => (hnew b hb).imp (fun h => by rw [hblk]; exact h) fun h => h)
          obtain ⟨g1, g2, g3⟩ := key fun hle => by
            refine ⟨hv', ys ++ news, by simp, by simpa using hown', ?_, ?_, h0, ?_⟩
            · rw [List.flatMap_append]; exact (hr.mono hle).append (hnr.mono hle)
            · intro e he
              rcases List.mem_append.1 he with he | he
              · exact hes e he
              · exact hxe e he
            · intro b hb o hi
              rcases hnew b hb with e | e
              · have := hI b e o hi
                refine ⟨this.1, ?_⟩
                rw [List.length_append, Nat.add_mul]; omega
              · have := hst.imm b o hi; omega
          refine ⟨_, hv', hrun, ?_, g1, g2, fun i _ hi => g3 i hi⟩
          obtain ⟨a, c, rfl⟩ := hown'.shape
          exact .vec (ver' := ver + 1) (hv := _) (by simp) (Nat.le_refl _) fun _ => rfl
        · cases h5
      · cases h5
    · split at h4
      · rename_i hc
        cases h4
        obtain ⟨ad, rfl⟩ : ∃ a, cs = .slice a 0 0 := by cases hs; exact ⟨_, rfl⟩
        have hown : Owns E.w el i.size (.slice ad 0 0) 0 [] := ⟨by simp, .inl ⟨ad, rfl, rfl⟩⟩
        obtain ⟨hst1, hg1, hb1⟩ := thaw hst hj el i.size hn0 ad
        obtain ⟨hv', w', hrun, hown', hos, htape, hout, hsz, hoth, hcell, hnew⟩ := append_owns (ty := ty) (elemT_spec he) htx hd hi hz1 hzs hown hsrc (by simp only [maxLen]; omega) (by simpa using hc.2)
        have hnb : hblk (.slice ad 0 0) = none := by cases ad <;> rfl
        have key := write_vec hst1 (id := j) (k := .vec el i.size [] 0 true) List.mem_cons_self hv' 1 w' (k' := .vec el i.size xs 1 true)
          (by simp only [if_true]; exact ⟨_, _, rfl, by omega, fun e => absurd e (by omega)⟩) hos htape hout hsz
          (fun k hk hne => hoth k hk (by rw [hnb]; simp)) (fun b hb o hi => by simp [Loc.block, hnb] at hb) (fun b hb => (hnew b hb).imp (fun h => by rw [hnb] at h; cases h) fun h => h)
        obtain ⟨g1, g2, g3⟩ := key fun hle => by
          refine ⟨hv', news, by simp, by simpa using hown', ?_, hxe, hn0, ?_⟩
          · exact (hnr.mono hg1.le).mono hle
          · intro b hb o hi
            rcases hnew b hb with e | e
            · rw [hnb] at e; cases e
            · have := hst.imm b o hi; omega
        have hput : Store.put ((j, .vec el i.size [] 0 true) :: σ) j (.vec el i.size xs 1 true) = (j, .vec el i.size xs 1 true) :: σ := by simp [Store.put]
        rw [hput] at g1 g2
        refine ⟨_, hv', hrun, ?_, g1, hg1.trans g2, fun i hi hu => g3 i (hb1 i (hi rfl) hu)⟩
        obtain ⟨a, c, rfl⟩ := hown'.shape
        simp only [Nat.zero_add]
        exact .vec (ver' := 1) (hv := _) (by simp) (Nat.le_refl _) fun _ => rfl
      · cases h4
    · cases h4
  · cases h4

theorem wrap_i64 {n : Int} (h1 : -9223372036854775808 ≤ n) (h2 : n ≤ 9223372036854775807) : IntKind.i64.wrap n = n := by
  simp [IntKind.wrap, IntKind.bits, IntKind.signed]; omega

/-- New memory for a slice of one's own. -/
theorem new_vec (hst : StoreRel E σ) (hj : E.ι j = .unborn) (t : TypeId) (s : Nat) (h0 : 0 < s) {c : Array Value} {es : List V} {cap : Nat} {xs : List Value} (hcs : c.size = cap * s) (hmax : cap ≤ maxLen) (hle : es.length ≤ cap)
    (hx : c.toList.take (es.length * s) = xs) (hr : RepL E (es.flatMap V.cells) xs) (hes : ∀ e ∈ es, e.cells.length = s ∧ e.ok) :
    ∃ E', E'.w = E.w.alloc (.cells c t) ∧ Rep E' (.vec j 1) (.slice (some ⟨E.w.heap.size, 0, none⟩) es.length cap) ∧ StoreRel E' ((j, .vec t s es 1 true) :: σ) ∧ Grow E σ E' ((j, .vec t s es 1 true) :: σ) ∧
      ∀ id, id ≠ j → E.ι id = .unborn → E'.ι id = .unborn := by
  obtain ⟨hst1, hg1, hb1⟩ := thaw hst hj t s h0 none
  have hxl : xs.length = es.length * s := by
    rw [← hx]; simp
    have : es.length * s ≤ cap * s := Nat.mul_le_mul_right _ hle
    omega
  have key := write_vec hst1 (id := j) (k := .vec t s [] 0 true) List.mem_cons_self (.slice (some ⟨E.w.heap.size, 0, none⟩) es.length cap) 1 (E.w.alloc (.cells c t)) (k' := .vec t s es 1 true)
    (by simp only [if_true]; exact ⟨_, _, rfl, by omega, fun e => absurd e (by omega)⟩) rfl rfl rfl (by rw [size_alloc]; exact Nat.le_succ _)
    (fun k hk _ => heap_alloc_lt _ _ _ hk) (fun b hb o hi => by simp [Loc.block, hblk] at hb) (fun b hb => .inr (by simp [hblk] at hb; exact Nat.le_of_eq hb.2))
  obtain ⟨g1, g2, g3⟩ := key fun hle' => by
    refine ⟨.slice (some ⟨E.w.heap.size, 0, none⟩) es.length cap, xs, by simp, ⟨hxl, ?_⟩, (hr.mono hg1.le).mono hle', hes, h0, ?_⟩
    · by_cases hc : cap = 0
      · exact .inl ⟨_, by rw [hc, show es.length = 0 by omega], by omega⟩
      · exact .inr ⟨_, cap, c, by omega, rfl, heap_alloc_eq _ _, hle, hmax, hcs, hx⟩
    · intro b hb o hi
      simp [hblk] at hb
      have := hst.imm b o hi; omega
  have hput : Store.put ((j, .vec t s [] 0 true) :: σ) j (.vec t s es 1 true) = (j, .vec t s es 1 true) :: σ := by simp [Store.put]
  rw [hput] at g1 g2
  exact ⟨_, rfl, .vec (ver' := 1) (by simp) (Nat.le_refl _) fun _ => rfl, g1, hg1.trans g2, fun id hi hu => g3 id (hb1 id hi hu)⟩

/-- **The operations on growing slices, and on what is built.** -/
theorem OpOk.vec {o : Oper} {v : V} {u : Upd} (h : vecOp P lk σ.get j o.op = some (v, u)) : OpOk P o lk σ j v (u.app σ j) u.isNew := fun E ρ hs hj hρ => by
  obtain ⟨dst, op, type, pos, after, guard⟩ := o
  simp only at h hρ
  have wrap : ∀ {s : Sem Value} {cv : Value} {w' : World}, s.run P E.w = .ok cv w' → (do Pure.pure (Next.value (← s)) : Sem Next).run P E.w = .ok (.value cv) w' := fun h => by simp [h]
  unfold vecOp at h
  split at h
  · rename_i c
    split at h
    · rename_i s x t tx hcal hargs hats
      obtain ⟨vs, hvs, h1⟩ := Option.bind_eq_some_iff.1 h
      obtain ⟨vx, hvx, h2⟩ := Option.bind_eq_some_iff.1 h1
      have ha : c.args = #[s, x] := by rw [← Array.toArray_toList (xs := c.args), hargs]
      have hat : c.argTypes = #[t, tx] := by rw [← Array.toArray_toList (xs := c.argTypes), hats]
      have hrs := hρ s (by simp [Op.operands, Call.operands, ha]) _ hvs
      have hrx := hρ x (by simp [Op.operands, Call.operands, ha]) _ hvx
      obtain ⟨E', cv, h3, h4, h5, h6, h7⟩ := appV_sound (ty := type) h2 hs hj hrs hrx
      refine ⟨E', cv, .inl ?_, h4, h5, h6, h7⟩
      simp only [execOp, resolve, hcal, Sem.run_bind, Sem.run_pure, Result.andThen_ok, invoke, builtin, ha, hat, List.map_toArray, List.map_cons, List.map_nil, h3]
    · rename_i x t hcal hargs hats
      obtain ⟨vx, hvx, h1⟩ := Option.bind_eq_some_iff.1 h
      have ha : c.args = #[x] := by rw [← Array.toArray_toList (xs := c.args), hargs]
      have hat : c.argTypes = #[t] := by rw [← Array.toArray_toList (xs := c.argTypes), hats]
      have hrx := hρ x (by simp [Op.operands, Call.operands, ha]) _ hvx
      split at h1
      · split at h1
        · rename_i hsort
          obtain ⟨k, hk, h2⟩ := Option.bind_eq_some_iff.1 h1
          split at h2
          · split at h2
            · rename_i he
              subst he
              cases h2
              obtain ⟨hv, ys, eι, e1, hown, _⟩ := vec_inv hrx (hs.blk _ _ (Store.get_mem hk))
              obtain ⟨a, cc, rfl⟩ := hown.shape
              obtain ⟨d, hd⟩ := sortT_slice hsort
              refine ⟨E, _, .inl ?_, .int _ _, hs, Grow.refl _ _, fun _ _ h => h⟩
              simp only [execOp, resolve, hcal, Sem.run_bind, Sem.run_pure, Result.andThen_ok, invoke, builtin, ha, hat, List.map_toArray, List.map_cons, List.map_nil, Builtin.len_, List.getElem?_toArray, List.getElem?_cons_zero, run_underlying hd, e1]
              rfl
            · cases h2
          · cases h2
        · cases h1
      · cases h1
    · cases h
  · rename_i t x i
    obtain ⟨v1, hv1, h1⟩ := Option.bind_eq_some_iff.1 h
    obtain ⟨v2, hv2, h2⟩ := Option.bind_eq_some_iff.1 h1
    have hrx := hρ x (by simp [Op.operands]) _ hv1
    have hri := hρ i (by simp [Op.operands]) _ hv2
    split at h2
    · rename_i id ver kk k
      obtain ⟨el, he, h3⟩ := Option.bind_eq_some_iff.1 h2
      obtain ⟨n, hn, h4⟩ := Option.bind_eq_some_iff.1 h3
      obtain ⟨bk, hk, h5⟩ := Option.bind_eq_some_iff.1 h4
      split at h5
      · rename_i t' s' es ver' wr
        split at h5
        · rename_i hc
          obtain ⟨rfl, rfl, hk0, hklt⟩ := hc
          cases h5
          obtain ⟨hv, ys, eι, e1, hown, hr, hes, h0, hI⟩ := vec_inv hrx (hs.blk _ _ (Store.get_mem hk))
          rcases hown.2 with ⟨a, e2, e3⟩ | ⟨g, cap, cur, hc0, e2, hg, hcap, _, hsz, htk⟩
          · omega
          · have hi' : ρ i = .int kk k := by revert hri; generalize ρ i = y; intro hri; cases hri; rfl
            have hb : 0 ≤ k ∧ k < (es.length : Int) := ⟨hk0, by omega⟩
            refine ⟨E, .pointer (some ⟨g, 0 + k.toNat * s', none⟩), .inl (wrap ?_), ?_, hs, Grow.refl _ _, fun _ _ h => h⟩
            · rw [e1, e2, hi']
              simp [Instr.indexAt, asIntOf, run_underlying (elemT_spec he), hb, run_sizeOf' hn, Addr.add_mid]
            · rw [Nat.zero_add]
              have := Rep.eptr (E := E) (id := id) (ver := ver) (s := s') (i := k.toNat) (off := 0) (b := g) eι (Nat.le_refl _) fun _ => ⟨_, _, e2⟩
              simpa using this
        · cases h5
      · cases h5
    · cases h2
  · rename_i t l c
    obtain ⟨v1, hv1, h1⟩ := Option.bind_eq_some_iff.1 h
    obtain ⟨v2, hv2, h2⟩ := Option.bind_eq_some_iff.1 h1
    have hrl := hρ l (by simp [Op.operands]) _ hv1
    have hrc := hρ c (by simp [Op.operands]) _ hv2
    split at h2
    · rename_i k1 n k2 m
      obtain ⟨el, he, h3⟩ := Option.bind_eq_some_iff.1 h2
      obtain ⟨s, hsz, h4⟩ := Option.bind_eq_some_iff.1 h3
      obtain ⟨bb, hbb, h5⟩ := Option.bind_eq_some_iff.1 h4
      obtain ⟨z, hz, h6⟩ := Option.bind_eq_some_iff.1 h5
      split at h6
      · rename_i hc
        obtain ⟨hn0, hnm, hm63, hmb, hzn, hs0⟩ := hc
        cases h6
        obtain ⟨cz, hzrun, hzrep, hzok, hzl⟩ := zeroC_run hz E
        obtain ⟨ie, hie, hib⟩ := bytesT_spec hbb
        have hl : ρ l = .int k1 n := by revert hrl; generalize ρ l = y; intro hri; cases hri; rfl
        have hcc : ρ c = .int k2 m := by revert hrc; generalize ρ c = y; intro hri; cases hri; rfl
        have hall : ∀ e ∈ List.replicate n.toNat z, e.cells.length = s ∧ e.ok := fun e he => by rw [(List.mem_replicate.1 he).2]; exact ⟨hzn, hzok⟩
        have hzr := zeros_rep (m := m.toNat) hzl hzn hs0
        have hmul : n.toNat * s ≤ m.toNat * s := Nat.mul_le_mul_right _ (by omega)
        have htake : (List.replicate n.toNat z).flatMap V.cells = ((List.replicate m.toNat z).flatMap V.cells).take (n.toNat * s) := by
          rw [← flat_take (fun e he => by rw [(List.mem_replicate.1 he).2, hzn]), List.take_replicate, Nat.min_eq_left (by omega)]
        obtain ⟨E', hE', hrep, hs', hg', hb'⟩ := new_vec (es := List.replicate n.toNat z) (c := (Array.range (m.toNat * s)).map fun k => cz.cells[k % cz.cells.size]!) hs hj el s hs0 (cap := m.toNat) (by simp) (by simp only [maxLen]; omega)
          (by simp; omega) rfl (by rw [htake, List.length_replicate]; exact hzr.take _) hall
        refine ⟨E', _, .inl (wrap (cv := .slice (some ⟨E.w.heap.size, 0, none⟩) n.toNat m.toNat) ?_), by rw [List.length_replicate] at hrep; exact hrep, hs', hg', fun id hn => hb' id (hn rfl)⟩
        have hw1 : IntKind.i64.wrap n = n := wrap_i64 (by omega) (by omega)
        have hw2 : IntKind.i64.wrap m = m := wrap_i64 (by omega) (by omega)
        have hbm : ¬ ((bb : Int) * m > 281474976710656) := by
          have : ((bb * m.toNat : Nat) : Int) = (bb : Int) * m := by rw [Int.natCast_mul, Int.toNat_of_nonneg (by omega)]
          rw [← this, Nat.mul_comm]; omega
        have hask : ∀ q : Nat, (askRoom q).run P E.w = .ok () E.w := fun q => by unfold askRoom; split <;> rfl
        rw [hl, hcc, hE']
        have hzm : ¬ (m.toNat * s = 0) → (zeroValue el).run P E.w = .ok cz E.w := fun _ => hzrun E.w
        have hcond : ¬ (((m < 0 ∨ 281474976710656 < (bb : Int) * m) ∨ n < 0) ∨ m < n) := by omega
        simp [Instr.makeSlice, run_underlying (elemT_spec he), asInt, asIntOf, typeInfo, hie, hib, hw1, hw2]
        rw [if_neg hcond]
        by_cases hz0 : m.toNat * s = 0
        · have : m.toNat = 0 := by
            rcases Nat.mul_eq_zero.1 hz0 with e | e
            · exact e
            · omega
          simp [this, run_sizeOf' hsz, newRow, Array.range_zero']
        · simp [run_sizeOf' hsz, hz0, hzrun, newRow]
      · cases h6
    · cases h2
  · rename_i t ps
    obtain ⟨vs, hvs, h1⟩ := Option.bind_eq_some_iff.1 h
    obtain ⟨w, hw, e⟩ := Option.map_eq_some_iff.1 h1
    cases e
    obtain ⟨hp, hr⟩ := partsV_rep (ρ := ρ) hvs fun p hp => hρ p.2 (by simp [Op.operands]; exact ⟨p.1, by simpa using hp⟩)
    obtain ⟨cv, h2, h3⟩ := buildV_sound hw hp hr
    refine ⟨E, cv, .inl (wrap ?_), h3, hs, Grow.refl _ _, fun _ _ h => h⟩
    rw [toArray_map] at h2; exact h2
  · rename_i t len ps
    obtain ⟨vs, hvs, h1⟩ := Option.bind_eq_some_iff.1 h
    obtain ⟨es, hes, e⟩ := Option.map_eq_some_iff.1 h1
    cases e
    obtain ⟨hp, hr⟩ := partsV_rep (ρ := ρ) hvs fun p hp => hρ p.2 (by simp [Op.operands]; exact ⟨p.1, by simpa using hp⟩)
    obtain ⟨E', cv, h2, h3, h4, h5, h6⟩ := litV_sound hes hs hp hr
    refine ⟨E', cv, .inl (wrap ?_), h3, h4, h5, fun id _ => h6 id⟩
    rw [toArray_map] at h2; exact h2
  · cases h
end
end Go.Awp
