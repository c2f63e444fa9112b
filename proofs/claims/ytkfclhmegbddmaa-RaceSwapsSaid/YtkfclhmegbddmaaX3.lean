/- AWP, text 17: the whole walk as one function on code. -/
import Derived.Test.YtkfclhmegbddmaaX2
import Derived.ChangeArms
import Derived.Carry
import Derived.DataElems
import Derived.Test.YtkfclhmegbddmaaProg
set_option linter.all false
namespace Go.Awp
open Go

@[simp] theorem Br_true (p q : Prop) : Br true p q = p := by simp [Br]
@[simp] theorem Br_false (p q : Prop) : Br false p q = q := by simp [Br]
theorem Br.mk {b : Bool} {p q : Prop} (h : b = true → p) (k : b = false → q) : Br b p q := ⟨h, k⟩

/-- What is still to be walked, as data: the simplifier finds nothing to do in it. -/
inductive Fr where
  | seq (c : Code)
  | blk (id : Nat)
  /-- Inside a statement that draws its order. -/
  | draw

def quiet : List Fr → Bool
  | .draw :: _ => true
  | _ => false

/-- What is asked of the text of the code: of its statements that draw their order, but for those that are looked at by hand. -/
def codeOk (ex : List Nat) : Code → Bool
  | .region id ops d => !d || ex.contains id || regFull ops.toList
  | .seq x y => codeOk ex x && codeOk ex y
  | .cond _ x y => codeOk ex x && codeOk ex y
  | .block _ c => codeOk ex c
  | .loop c => codeOk ex c
  | .rangeFunc _ _ a b => codeOk ex a && codeOk ex b
  | .scope c => codeOk ex c
  | _ => true

def stOk (ex : List Nat) : List Fr → Bool
  | [] => true
  | .seq c :: st => codeOk ex c && stOk ex st
  | _ :: st => stOk ex st

def unst (C : Ctx) : List Fr → (AExit → ASt → Prop) → AExit → ASt → Prop
  | [], K => K
  | .seq c :: st, K => Then (AW C c (unst C st K)) (unst C st K)
  | .blk id :: st, K => InBlock id (unst C st K)
  | .draw :: st, K => unst C st K

inductive Job where
  | code (c : Code)
  | done
  | exit (id : Nat)
  | ops (ops : Array Oper) (l : List Oper)

/-- A statement, or a loop, that waits for a rule. -/
def Wait (C : Ctx) (c : Code) (st : List Fr) (K : AExit → ASt → Prop) (s : ASt) : Prop := codeOk C.ex c = true → stOk C.ex st = true → AW C c (unst C st K) s

/-- Compared with the literal nil, as a slice. -/
def nilVal : BinOp → Value → Bool
  | .eql, .slice none _ _ => true
  | .neq, .slice none _ _ => true
  | _, _ => false
def nilOpd (b : BinOp) : Operand → Bool
  | .const v => nilVal b v
  | _ => false
def nilOp : Op → Bool
  | .binOp b _ _ y _ => nilOpd b y
  | _ => false
/-- A statement that does nothing but hold a slice against nil. -/
def nilRegion : List Oper → Bool
  | [_, o] => nilOp o.op
  | _ => false

/-- **The walk.** -/
def go (C : Ctx) : Nat → Job → List Fr → (AExit → ASt → Prop) → ASt → Prop
  | 0, _, _, _, _ => False
  | n + 1, .code c, st, K, s => match c with
    | .skip => go C n .done st K s
    | .label _ => go C n .done st K s
    | .seq x y => go C n (.code x) (.seq y :: st) K s
    | .region id ops d => if d = true then (if C.ex.contains id = true then Wait C (.region id ops d) st K s else go C n (.ops ops ops.toList) (.draw :: st) K s) else if nilRegion ops.toList = true then Wait C (.region id ops d) st K s else go C n (.ops ops ops.toList) (.blk id :: st) K s
    | .cond c x y => ∃ b, lkA C s.τ c = some (.bool b) ∧ Br b (go C n (.code x) st K s) (go C n (.code y) st K s)
    | .block id c => go C n (.code c) (.blk id :: st) K s
    | .exit id => go C n (.exit id) st K s
    | .ret => K .ret s
    | .goto l => K (.goto l) s
    | c => Wait C c st K s
  | n + 1, .done, st, K, s => match st with
    | [] => K .normal s
    | .seq c :: st => go C n (.code c) st K s
    | .blk _ :: st => go C n .done st K s
    | .draw :: st => go C n .done st K s
  | n + 1, .exit id, st, K, s => match st with
    | [] => K (.exit id) s
    | .seq _ :: st => go C n (.exit id) st K s
    | .blk i :: st => if i = id then go C n .done st K s else go C n (.exit id) st K s
    | .draw :: st => go C n (.exit id) st K s
  | n + 1, .ops ops l, st, K, s => match l with
    | [] => go C n .done st K s
    | o :: r => guardK (guardA ops s.τ o) (stepS C (quiet st) o s (fun s' => go C n (.ops ops r) st K s') (fun v s' => K (.panic v) s')) (dstOk s.n o.dst = true ∧ go C n (.ops ops r) st K (s.putD o.dst (.tup [])))

section
variable {C : Ctx} {K : AExit → ASt → Prop} {st : List Fr}

theorem unst_panic (v : V) (s : ASt) : unst C st K (.panic v) s = K (.panic v) s := by
  induction st with
  | nil => rfl
  | cons f st ih => cases f <;> exact ih
theorem unst_ret (s : ASt) : unst C st K .ret s = K .ret s := by
  induction st with
  | nil => rfl
  | cons f st ih => cases f <;> exact ih
theorem unst_goto (l : Nat) (s : ASt) : unst C st K (.goto l) s = K (.goto l) s := by
  induction st with
  | nil => rfl
  | cons f st ih => cases f <;> exact ih

theorem stepS_mono {q : Bool} {o : Oper} {s : ASt} {K K' : ASt → Prop} {X X' : V → ASt → Prop} (h : stepS C q o s K X) (hk : ∀ s, K s → K' s) (hx : ∀ v s, X v s → X' v s) : stepS C q o s K' X' := by
  have plain : plainS C o s K → plainS C o s K' := fun ⟨h1, v, u, h2, h3⟩ => ⟨h1, v, u, h2, hk _ h3⟩
  obtain ⟨dst, op, type, pos, after, guard⟩ := o
  cases op with
  | call c =>
    obtain ⟨callee, args, ats⟩ := c
    cases callee with
    | value f =>
      obtain ⟨h1, f', cap, args, h2, h3, h4⟩ := h
      cases q with
      | true =>
        obtain ⟨args', v, ids, a1, a2, a3, a4⟩ := h4
        exact ⟨h1, f', cap, args, h2, h3, args', v, ids, a1, a2, a3, hk _ a4⟩
      | false =>
      obtain ⟨hent, h4⟩ := h4
      refine ⟨h1, f', cap, args, h2, h3, hent, fun E cargs hs hg ha => (h4 E cargs hs hg ha).mono ?_⟩
      rintro e w' ⟨E', e1, e2, e3⟩
      refine ⟨E', e1, e2, ?_⟩
      rcases e3 with ⟨v, cv, σ', a1, a2, a3, a4⟩ | ⟨v, cv, σ', a1, a2, a3, a4⟩
      · exact .inl ⟨v, cv, σ', a1, a2, hk _ a3, a4⟩
      · exact .inr ⟨v, cv, σ', a1, a2, hx _ _ a3, a4⟩
    | _ => exact plain h
  | buildSlice t len ps =>
    by_cases hc : (C.own.contains t && !q) = true
    · have h : litS C dst t len ps.toList s K := by
        have h' := h
        unfold stepS at h'
        simp only [if_pos hc] at h'
        exact h'
      obtain ⟨h1, v, u, h2, h3⟩ := h
      unfold stepS
      simp only [if_pos hc]
      exact ⟨h1, v, u, h2, hk _ h3⟩
    · have h : plainS C { dst, op := .buildSlice t len ps, type, pos, after, guard } s K := by
        have h' := h
        unfold stepS at h'
        simp only [if_neg hc] at h'
        exact h'
      unfold stepS
      simp only [if_neg hc]
      exact plain h
  | _ => exact plain h

/-- What a job must come to. -/
def JobOk (C : Ctx) (st : List Fr) (K : AExit → ASt → Prop) (s : ASt) : Job → Prop
  | .code c => AW C c (unst C st K) s
  | .done => unst C st K .normal s
  | .exit id => unst C st K (.exit id) s
  | .ops ops l => runS C (quiet st) ops l s (unst C st K .normal) (fun v => unst C st K (.panic v))

theorem go_sound : ∀ (n : Nat) (j : Job) (st : List Fr) (K : AExit → ASt → Prop) (s : ASt), (∀ c, j = .code c → codeOk C.ex c = true) → stOk C.ex st = true → go C n j st K s → JobOk C st K s j
  | 0, _, _, _, _, _, _, h => h.elim
  | n + 1, .code c, st, K, s, hc, hst, h => by
    have ih := go_sound n
    have hc := hc c rfl
    show AW C c (unst C st K) s
    unfold go at h
    cases c with
    | skip => exact aw_skip (ih .done st K s (fun c e => by cases e) hst h)
    | label l => exact aw_label (ih .done st K s (fun c e => by cases e) hst h)
    | seq x y =>
      simp only [codeOk, Bool.and_eq_true] at hc
      exact aw_seq (ih (.code x) (.seq y :: st) K s (fun c e => by cases e; exact hc.1) (by simp only [stOk, Bool.and_eq_true]; exact ⟨hc.2, hst⟩) h)
    | region id ops d =>
      simp only at h
      split at h
      · rename_i hd
        subst hd
        split at h
        · exact h hc hst
        · rename_i hex
          have hf : regFull ops.toList = true := by
            simp only [codeOk, Bool.not_true, Bool.false_or, Bool.or_eq_true] at hc
            exact hc.resolve_left hex
          exact aw_regionD hf (ih (.ops ops ops.toList) (.draw :: st) K s (fun c e => by cases e) hst h)
      · rename_i hd
        have : d = false := by simpa using hd
        subst this
        split at h
        · exact h hc hst
        have := ih (.ops ops ops.toList) (.blk id :: st) K s (fun c e => by cases e) hst h
        refine aw_region ?_
        have e1 : unst C (.blk id :: st) K .normal = unst C st K .normal := rfl
        have e2 : (fun v => unst C (.blk id :: st) K (.panic v)) = fun v => unst C st K (.panic v) := rfl
        have this : runS C false ops ops.toList s (unst C (.blk id :: st) K .normal) (fun v => unst C (.blk id :: st) K (.panic v)) := this
        rw [e1, e2] at this
        exact this
    | cond c x y =>
      simp only [codeOk, Bool.and_eq_true] at hc
      obtain ⟨b, e, h1, h2⟩ := h
      exact aw_cond e (fun hb => ih (.code x) st K s (fun c e => by cases e; exact hc.1) hst (h1 hb)) (fun hb => ih (.code y) st K s (fun c e => by cases e; exact hc.2) hst (h2 hb))
    | block id c => exact aw_block (ih (.code c) (.blk id :: st) K s (fun c' e => by cases e; exact hc) hst h)
    | exit id => exact aw_exit (ih (.exit id) st K s (fun c e => by cases e) hst h)
    | ret => exact aw_ret (by rw [unst_ret]; exact h)
    | goto l => exact aw_goto (by rw [unst_goto]; exact h)
    | _ => exact h hc hst
  | n + 1, .done, st, K, s, _, hst, h => by
    have ih := go_sound n
    unfold go at h
    show unst C st K .normal s
    cases st with
    | nil => exact h
    | cons f st => cases f with
      | seq c =>
        simp only [stOk, Bool.and_eq_true] at hst
        exact ih (.code c) st K s (fun c' e => by cases e; exact hst.1) hst.2 h
      | blk i => exact ih .done st K s (fun c e => by cases e) hst h
      | draw => exact ih .done st K s (fun c e => by cases e) hst h
  | n + 1, .exit id, st, K, s, _, hst, h => by
    have ih := go_sound n
    unfold go at h
    show unst C st K (.exit id) s
    cases st with
    | nil => exact h
    | cons f st => cases f with
      | seq c =>
        simp only [stOk, Bool.and_eq_true] at hst
        exact ih (.exit id) st K s (fun c' e => by cases e) hst.2 h
      | draw => exact ih (.exit id) st K s (fun c e => by cases e) hst h
      | blk i =>
        simp only at h
        show (if id = i then unst C st K .normal s else unst C st K (.exit id) s)
        split at h
        · rename_i e; rw [if_pos e.symm]; exact ih .done st K s (fun c e => by cases e) hst h
        · rename_i e; rw [if_neg (fun e' => e e'.symm)]; exact ih (.exit id) st K s (fun c e => by cases e) hst h
  | n + 1, .ops ops l, st, K, s, _, hst, h => by
    have ih := go_sound n
    unfold go at h
    show runS C (quiet st) ops l s _ _
    cases l with
    | nil => exact ih .done st K s (fun c e => by cases e) hst h
    | cons o r =>
      simp only at h
      unfold runS
      unfold guardK at h ⊢
      split at h
      · exact ⟨fun hb => stepS_mono (h.1 hb) (fun s' hk => ih (.ops ops r) st K s' (fun c e => by cases e) hst hk) (fun v s' hx => by rw [unst_panic]; exact hx),
          fun hb => ⟨(h.2 hb).1, ih (.ops ops r) st K _ (fun c e => by cases e) hst (h.2 hb).2⟩⟩
      · exact h

/-! ### The rules that the simplifier goes by -/
section rules
variable {n : Nat} {s : ASt} {ops : Array Oper} {r : List Oper} {τ : List (Nat × V)} {σ : Store} {N lv nx t : Nat} {v : V}

@[simp] theorem go_skip : go C (n + 1) (.code .skip) st K s = go C n .done st K s := rfl
@[simp] theorem go_label {l : Nat} : go C (n + 1) (.code (.label l)) st K s = go C n .done st K s := rfl
@[simp] theorem go_seq {x y : Code} : go C (n + 1) (.code (.seq x y)) st K s = go C n (.code x) (.seq y :: st) K s := rfl
/-- A statement of two operations: is it a test for nil? -/
def RegN (C : Ctx) (n : Nat) (b : Bool) (id : Nat) (ops : Array Oper) (l : List Oper) (st : List Fr) (K : AExit → ASt → Prop) (s : ASt) : Prop :=
  if b = true then Wait C (.region id ops false) st K s else go C n (.ops ops l) (.blk id :: st) K s
@[simp] theorem go_region0 {id : Nat} : go C (n + 1) (.code (.region id #[] false)) st K s = go C n (.ops #[] []) (.blk id :: st) K s := rfl
@[simp] theorem go_region1 {id : Nat} {a : Oper} : go C (n + 1) (.code (.region id #[a] false)) st K s = go C n (.ops #[a] [a]) (.blk id :: st) K s := rfl
@[simp] theorem go_region2 {id : Nat} {a b : Oper} : go C (n + 1) (.code (.region id #[a, b] false)) st K s = RegN C n (nilOp b.op) id #[a, b] [a, b] st K s := rfl
@[simp] theorem go_region3 {id : Nat} {a b c : Oper} {l : List Oper} : go C (n + 1) (.code (.region id (a :: b :: c :: l).toArray false)) st K s = go C n (.ops (a :: b :: c :: l).toArray (a :: b :: c :: l)) (.blk id :: st) K s := rfl
@[simp] theorem RegN_true {id : Nat} {ops : Array Oper} {l : List Oper} : RegN C n true id ops l st K s = Wait C (.region id ops false) st K s := rfl
@[simp] theorem RegN_false {id : Nat} {ops : Array Oper} {l : List Oper} : RegN C n false id ops l st K s = go C n (.ops ops l) (.blk id :: st) K s := rfl
@[simp] theorem nilVal_bool {b : BinOp} {v : Bool} : nilVal b (.bool v) = false := by cases b <;> rfl
@[simp] theorem nilVal_int {b : BinOp} {k : IntKind} {v : Int} : nilVal b (.int k v) = false := by cases b <;> rfl
@[simp] theorem nilVal_float {b : BinOp} {k : FloatKind} {v : Nat} : nilVal b (.float k v) = false := by cases b <;> rfl
@[simp] theorem nilVal_complex {b : BinOp} {k : FloatKind} {v u : Nat} : nilVal b (.complex k v u) = false := by cases b <;> rfl
@[simp] theorem nilVal_string {b : BinOp} {v : ByteArray} : nilVal b (.string v) = false := by cases b <;> rfl
@[simp] theorem nilVal_pointer {b : BinOp} {v : Option Addr} : nilVal b (.pointer v) = false := by cases b <;> rfl
@[simp] theorem nilVal_map {b : BinOp} {v : Option Nat} : nilVal b (.map v) = false := by cases b <;> rfl
@[simp] theorem nilVal_nilFunc {b : BinOp} : nilVal b .nilFunc = false := by cases b <;> rfl
@[simp] theorem nilVal_nilIface {b : BinOp} : nilVal b .nilIface = false := by cases b <;> rfl
@[simp] theorem nilVal_agg {b : BinOp} {v : Array Value} : nilVal b (.agg v) = false := by cases b <;> rfl
@[simp] theorem nilVal_eql {n m : Nat} : nilVal .eql (.slice none n m) = true := rfl
@[simp] theorem nilVal_neq {n m : Nat} : nilVal .neq (.slice none n m) = true := rfl
@[simp] theorem nilOpd_const {b : BinOp} {v : Value} : nilOpd b (.const v) = nilVal b v := rfl
@[simp] theorem nilOpd_tmp {b : BinOp} {v : Nat} : nilOpd b (.tmp v) = false := rfl
@[simp] theorem nilOpd_global {b : BinOp} {v : Nat} : nilOpd b (.global v) = false := rfl
@[simp] theorem nilOpd_func {b : BinOp} {v : Nat} : nilOpd b (.func v) = false := rfl
@[simp] theorem nilOp_binOp {b : BinOp} {t u : TypeId} {x y : Operand} : nilOp (.binOp b t x y u) = nilOpd b y := rfl
@[simp] theorem nilOp_move {x} : nilOp (.move x) = false := rfl
@[simp] theorem nilOp_assign {x} : nilOp (.assign x) = false := rfl
@[simp] theorem nilOp_pick {x y z} : nilOp (.pick x y z) = false := rfl
@[simp] theorem nilOp_alloc {t} : nilOp (.alloc t) = false := rfl
@[simp] theorem nilOp_box {t x} : nilOp (.box t x) = false := rfl
@[simp] theorem nilOp_build {t ps} : nilOp (.build t ps) = false := rfl
@[simp] theorem nilOp_buildSlice {t n ps} : nilOp (.buildSlice t n ps) = false := rfl
@[simp] theorem nilOp_load {t x} : nilOp (.load t x) = false := rfl
@[simp] theorem nilOp_store {t x y} : nilOp (.store t x y) = false := rfl
@[simp] theorem nilOp_nilCheck {x} : nilOp (.nilCheck x) = false := rfl
@[simp] theorem nilOp_unOp {u t x} : nilOp (.unOp u t x) = false := rfl
@[simp] theorem nilOp_convert {t u x} : nilOp (.convert t u x) = false := rfl
@[simp] theorem nilOp_makeInterface {t x} : nilOp (.makeInterface t x) = false := rfl
@[simp] theorem nilOp_makeFunc {f a b} : nilOp (.makeFunc f a b) = false := rfl
@[simp] theorem nilOp_makeMap {t r} : nilOp (.makeMap t r) = false := rfl
@[simp] theorem nilOp_makeSlice {t x y} : nilOp (.makeSlice t x y) = false := rfl
@[simp] theorem nilOp_slice {t x a b c} : nilOp (.slice t x a b c) = false := rfl
@[simp] theorem nilOp_fieldAddr {t x n} : nilOp (.fieldAddr t x n) = false := rfl
@[simp] theorem nilOp_field {t x n} : nilOp (.field t x n) = false := rfl
@[simp] theorem nilOp_indexAddr {t x y} : nilOp (.indexAddr t x y) = false := rfl
@[simp] theorem nilOp_index {t x y} : nilOp (.index t x y) = false := rfl
@[simp] theorem nilOp_lookup {t x y b} : nilOp (.lookup t x y b) = false := rfl
@[simp] theorem nilOp_mapUpdate {t x y z} : nilOp (.mapUpdate t x y z) = false := rfl
@[simp] theorem nilOp_mapEntry {t x y} : nilOp (.mapEntry t x y) = false := rfl
@[simp] theorem nilOp_entryStore {t x y z} : nilOp (.entryStore t x y z) = false := rfl
@[simp] theorem nilOp_range {t x} : nilOp (.range t x) = false := rfl
@[simp] theorem nilOp_next {x b} : nilOp (.next x b) = false := rfl
@[simp] theorem nilOp_entry {x} : nilOp (.entry x) = false := rfl
@[simp] theorem nilOp_typeAssert {x t u b} : nilOp (.typeAssert x t u b) = false := rfl
@[simp] theorem nilOp_extract {x n} : nilOp (.extract x n) = false := rfl
@[simp] theorem nilOp_call {c} : nilOp (.call c) = false := rfl
@[simp] theorem nilOp_panic {x} : nilOp (.panic x) = false := rfl
@[simp] theorem nilOp_defer {c} : nilOp (.defer c) = false := rfl
@[simp] theorem nilOp_insert {t x y z} : nilOp (.insert t x y z) = false := rfl
@[simp] theorem nilOp_go {c} : nilOp (.go c) = false := rfl
/-- A statement that draws its order: is it to be looked at by hand? -/
def RegD (C : Ctx) (n : Nat) (b : Bool) (id : Nat) (ops : Array Oper) (l : List Oper) (st : List Fr) (K : AExit → ASt → Prop) (s : ASt) : Prop :=
  if b = true then Wait C (.region id ops true) st K s else go C n (.ops ops l) (.draw :: st) K s
@[simp] theorem go_regionD {id : Nat} {l : List Oper} : go C (n + 1) (.code (.region id l.toArray true)) st K s = RegD C n (C.ex.contains id) id l.toArray l st K s := rfl
@[simp] theorem RegD_true {id : Nat} {l : List Oper} : RegD C n true id ops l st K s = Wait C (.region id ops true) st K s := rfl
@[simp] theorem RegD_false {id : Nat} {l : List Oper} : RegD C n false id ops l st K s = go C n (.ops ops l) (.draw :: st) K s := rfl
@[simp] theorem go_block {id : Nat} {c : Code} : go C (n + 1) (.code (.block id c)) st K s = go C n (.code c) (.blk id :: st) K s := rfl
@[simp] theorem go_exit {id : Nat} : go C (n + 1) (.code (.exit id)) st K s = go C n (.exit id) st K s := rfl
@[simp] theorem go_ret : go C (n + 1) (.code .ret) st K s = K .ret s := rfl
@[simp] theorem go_goto {l : Nat} : go C (n + 1) (.code (.goto l)) st K s = K (.goto l) s := rfl
@[simp] theorem go_loop {c : Code} : go C (n + 1) (.code (.loop c)) st K s = Wait C (.loop c) st K s := rfl
@[simp] theorem go_scope {c : Code} : go C (n + 1) (.code (.scope c)) st K s = Wait C (.scope c) st K s := rfl
@[simp] theorem go_done_nil : go C (n + 1) .done [] K s = K .normal s := rfl
@[simp] theorem go_done_seq {c : Code} : go C (n + 1) .done (.seq c :: st) K s = go C n (.code c) st K s := rfl
@[simp] theorem go_done_blk {i : Nat} : go C (n + 1) .done (.blk i :: st) K s = go C n .done st K s := rfl
@[simp] theorem go_done_draw : go C (n + 1) .done (.draw :: st) K s = go C n .done st K s := rfl
@[simp] theorem go_exit_nil {id : Nat} : go C (n + 1) (.exit id) [] K s = K (.exit id) s := rfl
@[simp] theorem go_exit_seq {id : Nat} {c : Code} : go C (n + 1) (.exit id) (.seq c :: st) K s = go C n (.exit id) st K s := rfl
/-- Does the block's number fit? -/
def ExitB (C : Ctx) (n : Nat) (b : Bool) (id : Nat) (st : List Fr) (K : AExit → ASt → Prop) (s : ASt) : Prop := go C n (if b = true then .done else .exit id) st K s
@[simp] theorem go_exit_blk {id i : Nat} : go C (n + 1) (.exit id) (.blk i :: st) K s = ExitB C n (i == id) id st K s := by
  unfold ExitB
  show (if i = id then _ else _) = _
  by_cases e : i = id <;> simp [e]
@[simp] theorem ExitB_true {id : Nat} : ExitB C n true id st K s = go C n .done st K s := rfl
@[simp] theorem ExitB_false {id : Nat} : ExitB C n false id st K s = go C n (.exit id) st K s := rfl

/-- A test of the program. -/
def CondC (C : Ctx) (n : Nat) (r : Option V) (x y : Code) (st : List Fr) (K : AExit → ASt → Prop) (s : ASt) : Prop :=
  ∃ b, r = some (.bool b) ∧ Br b (go C n (.code x) st K s) (go C n (.code y) st K s)
@[simp] theorem go_cond {c : Operand} {x y : Code} : go C (n + 1) (.code (.cond c x y)) st K s = CondC C n (lkA C s.τ c) x y st K s := rfl
@[simp] theorem CondC_true {x y : Code} : CondC C n (some (.bool true)) x y st K s = go C n (.code x) st K s := by
  simp [CondC, Br]
@[simp] theorem CondC_false {x y : Code} : CondC C n (some (.bool false)) x y st K s = go C n (.code y) st K s := by
  simp [CondC, Br]
theorem CondC.mk {b : Bool} {x y : Code} (h : b = true → go C n (.code x) st K s) (k : b = false → go C n (.code y) st K s) : CondC C n (some (.bool b)) x y st K s := ⟨b, rfl, h, k⟩

@[simp] theorem go_ops_nil : go C (n + 1) (.ops ops []) st K s = go C n .done st K s := rfl

/-- An operation that is carried out. -/
def OpO (C : Ctx) (n : Nat) (dst : Option Tmp) (op : Op) (ops : Array Oper) (r : List Oper) (st : List Fr) (K : AExit → ASt → Prop) (s : ASt) : Prop :=
  stepS C (quiet st) { dst, op, type := 0, pos := "", after := #[], guard := none } s (fun s' => go C n (.ops ops r) st K s') (fun v s' => K (.panic v) s')
/-- An operation behind '&&' or '||'. -/
def GuardO (C : Ctx) (n : Nat) (g : Option Bool) (dst : Option Tmp) (op : Op) (ops : Array Oper) (r : List Oper) (st : List Fr) (K : AExit → ASt → Prop) (s : ASt) : Prop :=
  guardK g (OpO C n dst op ops r st K s) (dstOk s.n dst = true ∧ go C n (.ops ops r) st K (s.putD dst (.tup [])))

theorem stepS_eq {q : Bool} {o o' : Oper} (h1 : o.op = o'.op) (h2 : o.dst = o'.dst) {s : ASt} {K : ASt → Prop} {X : V → ASt → Prop} : stepS C q o s K X = stepS C q o' s K X := by
  obtain ⟨d, op, ty, ps, af, gd⟩ := o
  obtain ⟨d', op', ty', ps', af', gd'⟩ := o'
  simp only at h1 h2
  subst h1; subst h2
  rfl

@[simp] theorem go_op {dst : Option Tmp} {op : Op} {type : TypeId} {pos : String} {after : Array Edge} :
    go C (n + 1) (.ops ops ({ dst, op, type, pos, after, guard := none } :: r)) st K s = OpO C n dst op ops r st K s := by
  show guardK (some true) _ _ = _
  unfold guardK Br OpO
  simp only [true_implies, Bool.true_eq_false, false_implies, and_true]
  exact stepS_eq rfl rfl

/-- The temporary of a guard. -/
def dstAt : List Oper → Nat → Option Tmp
  | [], _ => none
  | o :: _, 0 => o.dst
  | _ :: l, j + 1 => dstAt l j
def boolAt (τ : List (Nat × V)) (want : Bool) : Option Tmp → Option Bool
  | none => none
  | some t => match τ.lookup t with
    | some (.bool b) => some (b == want)
    | some (.tup []) => some false
    | _ => none

theorem dstAt_eq (l : List Oper) (j : Nat) : (l[j]?).bind (·.dst) = dstAt l j := by
  induction l generalizing j with
  | nil => rfl
  | cons o l ih => cases j with
    | zero => rfl
    | succ j => exact ih j

@[simp] theorem go_opG {dst : Option Tmp} {op : Op} {type : TypeId} {pos : String} {after : Array Edge} {j : Nat} {want : Bool} {l : List Oper} :
    go C (n + 1) (.ops l.toArray ({ dst, op, type, pos, after, guard := some (j, want) } :: r)) st K s = GuardO C n (boolAt s.τ want (dstAt l j)) dst op l.toArray r st K s := by
  show guardK (guardA l.toArray s.τ _) _ _ = _
  unfold GuardO OpO
  have e : guardA l.toArray s.τ { dst, op, type, pos, after, guard := some (j, want) } = boolAt s.τ want (dstAt l j) := by
    unfold guardA
    simp only [List.getElem?_toArray, dstAt_eq]
    cases dstAt l j <;> rfl
  rw [e]
  congr 1
@[simp] theorem GuardO_true {dst : Option Tmp} {op : Op} : GuardO C n (some true) dst op ops r st K s = OpO C n dst op ops r st K s := by simp [GuardO, guardK, Br]
@[simp] theorem GuardO_false {op : Op} : GuardO C n (some false) (some t) op ops r st K ⟨τ, σ, N, lv, nx⟩ = (t < N ∧ go C n (.ops ops r) st K ⟨(t, .tup []) :: τ, σ, N, lv, nx⟩) := by simp [GuardO, guardK, Br, dstOk, ASt.putD]
@[simp] theorem GuardO_false_none {op : Op} : GuardO C n (some false) none op ops r st K s = go C n (.ops ops r) st K s := by simp [GuardO, guardK, Br, dstOk, ASt.putD]
theorem GuardO.mk {b : Bool} {dst : Option Tmp} {op : Op} (h : b = true → GuardO C n (some true) dst op ops r st K s) (k : b = false → GuardO C n (some false) dst op ops r st K s) : GuardO C n (some b) dst op ops r st K s := by
  cases b
  · exact k rfl
  · exact h rfl

/-- What an operation gives. -/
def ResO (C : Ctx) (n : Nat) (q : Option (V × Upd)) (dst : Option Tmp) (ops : Array Oper) (r : List Oper) (st : List Fr) (K : AExit → ASt → Prop) (s : ASt) : Prop :=
  dstOk s.n dst = true ∧ opK q fun v u => go C n (.ops ops r) st K ((({ s with σ := u.app s.σ (s.lv, s.nx) } : ASt).next u.isNew).putD dst v)

@[simp] theorem ResO_pure : ResO C n (some (v, .none)) (some t) ops r st K ⟨τ, σ, N, lv, nx⟩ = (t < N ∧ go C n (.ops ops r) st K ⟨(t, v) :: τ, σ, N, lv, nx⟩) := by
  simp [ResO, opK_some, dstOk, Upd.app, Upd.isNew, ASt.next, ASt.putD]
@[simp] theorem ResO_none : ResO C n (some (v, .none)) none ops r st K ⟨τ, σ, N, lv, nx⟩ = go C n (.ops ops r) st K ⟨τ, σ, N, lv, nx⟩ := by
  simp [ResO, opK_some, dstOk, Upd.app, Upd.isNew, ASt.next, ASt.putD]
@[simp] theorem ResO_new {b : Blk} : ResO C n (some (v, .new b)) (some t) ops r st K ⟨τ, σ, N, lv, nx⟩ = (t < N ∧ go C n (.ops ops r) st K ⟨(t, v) :: τ, ((lv, nx), b) :: σ, N, lv, nx + 1⟩) := by
  simp [ResO, opK_some, dstOk, Upd.app, Upd.isNew, ASt.next, ASt.putD]
@[simp] theorem ResO_put {b : Blk} {id : Id} : ResO C n (some (v, .put id b)) (some t) ops r st K ⟨τ, σ, N, lv, nx⟩ = (t < N ∧ go C n (.ops ops r) st K ⟨(t, v) :: τ, Store.put σ id b, N, lv, nx⟩) := by
  simp [ResO, opK_some, dstOk, Upd.app, Upd.isNew, ASt.next, ASt.putD]
@[simp] theorem ResO_put_none {b : Blk} {id : Id} : ResO C n (some (v, .put id b)) none ops r st K ⟨τ, σ, N, lv, nx⟩ = go C n (.ops ops r) st K ⟨τ, Store.put σ id b, N, lv, nx⟩ := by
  simp [ResO, opK_some, dstOk, Upd.app, Upd.isNew, ASt.next, ASt.putD]

def pureP (v : Option V) : Option (V × Upd) := v.map (·, .none)
@[simp] theorem pureP_some (v : V) : pureP (some v) = some (v, .none) := rfl

section opRules
variable {dst : Option Tmp}
theorem OpO_plain {op : Op} (h : ∀ c, op ≠ .call c) (h' : ∀ t l ps, op ≠ .buildSlice t l ps := by intros; simp) : OpO C n dst op ops r st K s = ResO C n (opA C.P (lkA C s.τ) s.σ.get (s.lv, s.nx) op) dst ops r st K s := by
  cases op <;> first | rfl | exact absurd rfl (h _) | exact absurd rfl (h' _ _ _)
theorem opA_pure {P : Program} {lk : Operand → Option V} {get : Id → Option Blk} {j : Id} {op : Op} (h1 : storeOp P lk get j op = none) (h2 : subOp P lk get op = none) (h3 : vecOp P lk get j op = none) : opA P lk get j op = pureP (pureOp P lk op) := by
  unfold opA pureP
  cases pureOp P lk op with
  | some v => rfl
  | none => simp only [h1, h2, h3]; rfl
@[simp] theorem OpO_move {x : Operand} : OpO C n dst (.move x) ops r st K s = ResO C n (pureP (lkA C s.τ x)) dst ops r st K s := by
  rw [OpO_plain (by simp), opA_pure rfl rfl rfl]; rfl
@[simp] theorem OpO_assign {x : Operand} : OpO C n dst (.assign x) ops r st K s = ResO C n (pureP (lkA C s.τ x)) dst ops r st K s := by
  rw [OpO_plain (by simp), opA_pure rfl rfl rfl]; rfl
def ifV (c : Bool) (a b : Option V) : Option V := if c = true then a else b
@[simp] theorem ifV_true (a b : Option V) : ifV true a b = a := rfl
@[simp] theorem ifV_false (a b : Option V) : ifV false a b = b := rfl
@[simp] theorem ifV_bool (c a b : Bool) : ifV c (some (.bool a)) (some (.bool b)) = some (.bool (if c = true then a else b)) := by cases c <;> rfl
def pickV : Option V → Option V → Option V → Option V
  | some (.bool c), a, b => ifV c a b
  | _, _, _ => none
@[simp] theorem pickV_bool (c : Bool) (a b : Option V) : pickV (some (.bool c)) a b = ifV c a b := rfl
@[simp] theorem OpO_pick {c a b : Operand} : OpO C n dst (.pick c a b) ops r st K s = ResO C n (pureP (pickV (lkA C s.τ c) (lkA C s.τ a) (lkA C s.τ b))) dst ops r st K s := by
  rw [OpO_plain (by simp), opA_pure rfl rfl rfl]
  congr 2
  simp only [pureOp]
  cases lkA C s.τ c with
  | none => rfl
  | some v => cases v <;> rfl
@[simp] theorem OpO_binOp {op : BinOp} {ty ty' : TypeId} {x y : Operand} : OpO C n dst (.binOp op ty x y ty') ops r st K s = ResO C n (pureP ((lkA C s.τ x).bind fun a => (lkA C s.τ y).bind fun b => binV C.P op ty a b)) dst ops r st K s := by
  rw [OpO_plain (by simp), opA_pure rfl rfl rfl]; rfl
@[simp] theorem OpO_unOp {op : UnOp} {ty : TypeId} {x : Operand} : OpO C n dst (.unOp op ty x) ops r st K s = ResO C n (pureP ((lkA C s.τ x).bind (unV op))) dst ops r st K s := by
  rw [OpO_plain (by simp), opA_pure rfl rfl rfl]; rfl
@[simp] theorem OpO_convert {a b : TypeId} {x : Operand} : OpO C n dst (.convert a b x) ops r st K s = ResO C n (pureP ((lkA C s.τ x).bind (convV C.P a b))) dst ops r st K s := by
  rw [OpO_plain (by simp), opA_pure rfl rfl rfl]; rfl
@[simp] theorem OpO_makeFunc {fn : Fn} {f c : List Operand} : OpO C n dst (.makeFunc fn f.toArray c.toArray) ops r st K s = ResO C n (pureP ((allV (lkA C s.τ) f).bind fun f => (allV (lkA C s.τ) c).bind fun c => some (.func fn f c))) dst ops r st K s := by
  rw [OpO_plain (by simp), opA_pure rfl rfl rfl]; rfl
@[simp] theorem OpO_fieldAddr {t f : Nat} {x : Operand} : OpO C n dst (.fieldAddr t x f) ops r st K s = ResO C n (pureP ((lkA C s.τ x).bind (faddrV C.P t f))) dst ops r st K s := by
  rw [OpO_plain (by simp), opA_pure rfl rfl rfl]; rfl
@[simp] theorem OpO_extract {i : Nat} {x : Operand} : OpO C n dst (.extract x i) ops r st K s = ResO C n (pureP ((lkA C s.τ x).bind fun | .tup vs => vs[i]? | _ => none)) dst ops r st K s := by
  rw [OpO_plain (by simp), opA_pure rfl rfl rfl]; rfl
@[simp] theorem OpO_index {ty : TypeId} {x i : Operand} : OpO C n dst (.index ty x i) ops r st K s = ResO C n (pureP ((lkA C s.τ x).bind fun a => (lkA C s.τ i).bind fun b => atV C.P ty a b)) dst ops r st K s := by
  rw [OpO_plain (by simp), opA_pure rfl rfl rfl]; rfl
@[simp] theorem OpO_nilCheck {x : Operand} : OpO C n dst (.nilCheck x) ops r st K s = ResO C n (pureP (pureOp C.P (lkA C s.τ) (.nilCheck x))) dst ops r st K s := by
  rw [OpO_plain (by simp), opA_pure rfl rfl rfl]
@[simp] theorem OpO_field {ty : TypeId} {i : Nat} {x : Operand} : OpO C n dst (.field ty x i) ops r st K s = ResO C n (pureP (pureOp C.P (lkA C s.τ) (.field ty x i))) dst ops r st K s := by
  rw [OpO_plain (by simp), opA_pure rfl rfl rfl]
@[simp] theorem OpO_makeInterface {ty : TypeId} {x : Operand} : OpO C n dst (.makeInterface ty x) ops r st K s = ResO C n (pureP (pureOp C.P (lkA C s.τ) (.makeInterface ty x))) dst ops r st K s := by
  rw [OpO_plain (by simp), opA_pure rfl rfl rfl]
@[simp] theorem OpO_alloc {ty : TypeId} : OpO C n dst (.alloc ty) ops r st K s = ResO C n ((zeroC C.P ty).map fun z => (.ptr (s.lv, s.nx) 0, .new (.cells ty z.cells))) dst ops r st K s := by
  rw [OpO_plain (by simp)]
  have e : opA C.P (lkA C s.τ) s.σ.get (s.lv, s.nx) (.alloc ty) = ((zeroC C.P ty).map fun z => (.ptr (s.lv, s.nx) 0, .new (.cells ty z.cells))) := by
    unfold opA
    simp only [show pureOp C.P (lkA C s.τ) (.alloc ty) = none from rfl]
    cases h : zeroC C.P ty <;> simp [storeOp, vecOp, subOp, h]
  rw [e]
@[simp] theorem OpO_box {ty : TypeId} {x : Operand} : OpO C n dst (.box ty x) ops r st K s = ResO C n ((lkA C s.τ x).bind fun v => if v.wf = true then some (.ptr (s.lv, s.nx) 0, .new (.cells ty v.cells)) else none) dst ops r st K s := by
  rw [OpO_plain (by simp)]
  have e : opA C.P (lkA C s.τ) s.σ.get (s.lv, s.nx) (.box ty x) = ((lkA C s.τ x).bind fun v => if v.wf = true then some (.ptr (s.lv, s.nx) 0, .new (.cells ty v.cells)) else none) := by
    unfold opA
    simp only [show pureOp C.P (lkA C s.τ) (.box ty x) = none from rfl]
    cases h : lkA C s.τ x with
    | none => simp [storeOp, vecOp, subOp, h]
    | some v => by_cases hw : v.wf = true <;> simp [storeOp, vecOp, subOp, h, hw]
  rw [e]
def loadS (P : Program) (ty : TypeId) (get : Id → Option Blk) : Option V → Option (V × Upd)
  | some (.ptr id off) => (get id).bind fun | .cells _ cs => (partV P ty cs off).map (·, .none) | _ => none
  | some (.eptr id ver s i off) => (get id).bind fun
      | .vec _ s' es ver' _ => if ver = ver' ∧ s = s' then (es[i]?).bind fun e => (if off = 0 ∧ fitV P ty e = true then some e else partV P ty e.cells off).map (·, .none) else none
      | _ => none
  | _ => none
/-- A load. -/
def loadR (P : Program) (ty : TypeId) (get : Id → Option Blk) : Option V → Option (V × Upd)
  | some (.rptr v) => if fitV P ty v = true then some (v, .none) else none
  | some (.ptr id off) => match get id with
    | some (.cells _ cs) => pureP (partV P ty cs off)
    | _ => none
  | some (.eptr id ver z i off) => match get id with
    | some (.vec _ z' es ver' _) => if ver = ver' ∧ z = z' then pureP ((es[i]?).bind fun e => if off = 0 ∧ fitV P ty e = true then some e else partV P ty e.cells off) else none
    | _ => none
  | _ => none
theorem opA_load {P : Program} {lk : Operand → Option V} {get : Id → Option Blk} {j : Id} {ty : TypeId} {x : Operand} : opA P lk get j (.load ty x) = loadR P ty get (lk x) := by
  have hv : vecOp P lk get j (.load ty x) = none := rfl
  have hsb : subOp P lk get (.load ty x) = none := rfl
  unfold opA
  rw [hv, hsb]
  have hp : pureOp P lk (.load ty x) = (lk x).bind fun | .rptr v => if fitV P ty v = true then some v else none | _ => none := rfl
  have hs : storeOp P lk get j (.load ty x) = loadS P ty get (lk x) := by
    cases h : lk x with
    | none => simp [storeOp, loadS, h]
    | some v => cases v <;> simp [storeOp, loadS, h] <;> rfl
  rw [hp, hs]
  cases h : lk x with
  | none => rfl
  | some v =>
    cases v
    case rptr v =>
      simp only [Option.bind_some, loadR]
      by_cases hf : fitV P ty v = true
      · rw [if_pos hf, if_pos hf]
      · rw [if_neg hf, if_neg hf]; rfl
    case ptr id off =>
      simp only [Option.bind_some, loadR, loadS]
      cases get id with
      | none => rfl
      | some b => cases b with
        | cells t cs => simp only [Option.bind_some, pureP]; cases partV P ty cs off <;> rfl
        | vec => rfl
    case eptr id ver z i off =>
      simp only [Option.bind_some, loadR, loadS]
      cases get id with
      | none => rfl
      | some b => cases b with
        | cells => rfl
        | vec t z' es ver' wr =>
          simp only [Option.bind_some]
          by_cases hc : ver = ver' ∧ z = z'
          · rw [if_pos hc, if_pos hc]
            cases es[i]? with
            | none => rfl
            | some e => simp only [Option.bind_some, pureP]; generalize (if off = 0 ∧ fitV P ty e = true then some e else partV P ty e.cells off) = q; cases q <;> rfl
          · rw [if_neg hc, if_neg hc]
    all_goals rfl
@[simp] theorem OpO_load {ty : TypeId} {x : Operand} : OpO C n dst (.load ty x) ops r st K s = ResO C n (loadR C.P ty s.σ.get (lkA C s.τ x)) dst ops r st K s := by
  rw [OpO_plain (by simp), opA_load]
@[simp] theorem OpO_store {ty : TypeId} {x y : Operand} : OpO C n dst (.store ty x y) ops r st K s = ResO C n (storeOp C.P (lkA C s.τ) s.σ.get (s.lv, s.nx) (.store ty x y)) dst ops r st K s := by
  rw [OpO_plain (by simp)]
  congr 1
  unfold opA
  simp only [show pureOp C.P (lkA C s.τ) (.store ty x y) = none from rfl, show vecOp C.P (lkA C s.τ) s.σ.get (s.lv, s.nx) (.store ty x y) = none from rfl, show subOp C.P (lkA C s.τ) s.σ.get (.store ty x y) = none from rfl]
  split <;> simp_all

/-! Calls of what is built in. -/
theorem OpO_builtin {b : Builtin} {args : Array Operand} {ats : Array TypeId} : OpO C n dst (.call { callee := .builtin b, args := args, argTypes := ats }) ops r st K s = ResO C n (opA C.P (lkA C s.τ) s.σ.get (s.lv, s.nx) (.call { callee := .builtin b, args := args, argTypes := ats })) dst ops r st K s := rfl
def lenR (P : Program) (t : TypeId) (get : Id → Option Blk) : Option V → Option (V × Upd)
  | some (.slice es) => if sortT P t = .slice then some (.int .i64 es.length, .none) else none
  | some .snil => if sortT P t = .slice then some (.int .i64 0, .none) else none
  | some (.str s) => if sortT P t = .str then some (.int .i64 s.size, .none) else none
  | some (.vec id ver) => if sortT P t = .slice then (match get id with | some (.vec _ _ es ver' _) => if ver = ver' then some (.int .i64 es.length, .none) else none | _ => none) else none
  | some (.vsub id ver z lo len) => if sortT P t = .slice then (match winV get (.vsub id ver z lo len) with | some _ => some (.int .i64 len, .none) | none => none) else none
  | _ => none
theorem opA_len {P : Program} {lk : Operand → Option V} {get : Id → Option Blk} {j : Id} {t : TypeId} {x : Operand} : opA P lk get j (.call { callee := .builtin .len, args := #[x], argTypes := #[t] }) = lenR P t get (lk x) := by
  unfold opA
  simp only [pureOp, allV, storeOp, subOp, vecOp]
  cases h : lk x with
  | none => rfl
  | some v =>
    cases v <;> simp only [Option.bind_some, lookV, lenR]
    case slice es => by_cases hs : sortT P t = .slice <;> simp [hs]
    case snil => by_cases hs : sortT P t = .slice <;> simp [hs]
    case str q => by_cases hs : sortT P t = .str <;> simp [hs]
    case vec id ver =>
      by_cases hs : sortT P t = .slice <;> simp [hs]
      cases get id with
      | none => rfl
      | some b => cases b <;> rfl
    case vsub id ver z lo len =>
      by_cases hs : sortT P t = .slice <;> simp [hs]
      cases winV get (.vsub id ver z lo len) <;> rfl
    all_goals rfl
@[simp] theorem OpO_len {x : Operand} {t : TypeId} : OpO C n dst (.call { callee := .builtin .len, args := #[x], argTypes := #[t] }) ops r st K s = ResO C n (lenR C.P t s.σ.get (lkA C s.τ x)) dst ops r st K s := by
  rw [OpO_builtin, opA_len]

/-- Appending to a piece. -/
def appS (P : Program) (get : Id → Option Blk) (t tx : TypeId) (id : Id) (ver z lo len : Nat) (x : V) : Option (V × Upd) :=
  (winV get (.vsub id ver z lo len)).bind fun _ => (elemT P t).bind fun el => (sizeT P el).bind fun n => (srcV P get n tx x).bind fun xs => (get id).bind fun
    | .vec t' s es _ wr => if s = n ∧ z = n ∧ wr = true ∧ lo + len + xs.length ≤ es.length then
        some (.vsub id ver z lo (len + xs.length), if xs.length = 0 then .none else .put id (.vec t' s (overL es (lo + len) xs) ver true)) else none
    | _ => none
def appR (P : Program) (get : Id → Option Blk) (j : Id) (t tx : TypeId) : Option V → Option V → Option (V × Upd)
  | some (.vsub id ver z lo len), some x => appS P get t tx id ver z lo len x
  | some (.vec id ver), some x => appV P get j t tx (.vec id ver) x
  | some .snil, some x => appV P get j t tx .snil x
  | _, _ => none
theorem appV_no {P : Program} {get : Id → Option Blk} {j : Id} {t tx : TypeId} {s x : V} (h1 : ∀ id ver, s ≠ .vec id ver) (h2 : s ≠ .snil) : appV P get j t tx s x = none := by
  unfold appV
  cases elemT P t with
  | none => rfl
  | some el =>
    simp only [Option.bind_some]
    cases sizeT P el with
    | none => rfl
    | some n =>
      simp only [Option.bind_some]
      cases bytesT P el with
      | none => rfl
      | some bb =>
        simp only [Option.bind_some]
        cases zeroC P el with
        | none => rfl
        | some z =>
          simp only [Option.bind_some]
          cases srcV P get n tx x with
          | none => rfl
          | some xs =>
            simp only [Option.bind_some]
            by_cases hc : z.cells.length = n ∧ 0 < n
            · simp only [hc, and_self, if_true]
            · rw [if_neg hc]
@[simp] theorem OpO_append {x y : Operand} {t u : TypeId} : OpO C n dst (.call { callee := .builtin .append, args := #[x, y], argTypes := #[t, u] }) ops r st K s =
    ResO C n (appR C.P s.σ.get (s.lv, s.nx) t u (lkA C s.τ x) (lkA C s.τ y)) dst ops r st K s := by
  rw [OpO_builtin]
  congr 1
  unfold opA
  have hs : storeOp C.P (lkA C s.τ) s.σ.get (s.lv, s.nx) (.call { callee := .builtin .append, args := #[x, y], argTypes := #[t, u] }) = none := rfl
  have hp : pureOp C.P (lkA C s.τ) (.call { callee := .builtin .append, args := #[x, y], argTypes := #[t, u] }) = none := by
    simp only [pureOp, allV]
    cases lkA C s.τ x with
    | none => rfl
    | some a => cases lkA C s.τ y <;> rfl
  rw [hs, hp]
  simp only [subOp, vecOp]
  cases lkA C s.τ x with
  | none => rfl
  | some a =>
    cases lkA C s.τ y with
    | none => cases a <;> rfl
    | some b =>
      simp only [Option.bind_some]
      by_cases h1 : ∃ id ver, a = .vec id ver
      · obtain ⟨id, ver, rfl⟩ := h1; rfl
      · by_cases h2 : a = .snil
        · subst h2; rfl
        · rw [appV_no (fun id ver e => h1 ⟨id, ver, e⟩) h2]
          cases a <;> first | rfl | exact absurd rfl h2 | exact absurd ⟨_, _, rfl⟩ h1 | skip
          simp only [appR, appS]
          generalize (winV s.σ.get _).bind _ = q
          cases q <;> rfl

/-- A slice expression. -/
def cutR (P : Program) (get : Id → Option Blk) (t : TypeId) (lo hi mx : Option (Option V)) : Option V → Option (V × Upd)
  | some (.vec id ver) => cutW P get t (.vec id ver) lo hi mx
  | some (.vsub id ver z a b) => cutW P get t (.vsub id ver z a b) lo hi mx
  | v => pureP (cutV P t v lo hi mx)
where
  cutW (P : Program) (get : Id → Option Blk) (t : TypeId) (v : V) (lo hi mx : Option (Option V)) : Option (V × Upd) :=
    (winV get v).bind fun (id, b, len) => (elemT P t).bind fun el => (sizeT P el).bind fun n => (get id).bind fun
    | .vec _ s es ver _ => (bndV 0 lo).bind fun l => (bndV len hi).bind fun h =>
        if s = n then match mx with
          | none => if l ≤ h ∧ b + h ≤ es.length then some (.vsub id ver s (b + l) (h - l), .none) else none
          | some m => (bndV 0 (some m)).bind fun m => if hi.isSome ∧ l ≤ h ∧ h ≤ m ∧ b + m ≤ es.length then some (.any, .none) else none
        else none
    | _ => none
theorem opA_slice {P : Program} {lk : Operand → Option V} {get : Id → Option Blk} {j : Id} {t : TypeId} {x : Operand} {lo hi mx : Option Operand} : opA P lk get j (.slice t x lo hi mx) = cutR P get t (lo.map lk) (hi.map lk) (mx.map lk) (lk x) := by
  unfold opA
  have hp : pureOp P lk (.slice t x lo hi mx) = cutV P t (lk x) (lo.map lk) (hi.map lk) (mx.map lk) := rfl
  have hs : storeOp P lk get j (.slice t x lo hi mx) = none := rfl
  have hv : vecOp P lk get j (.slice t x lo hi mx) = none := rfl
  have hsub : subOp P lk get (.slice t x lo hi mx) = (lk x).bind fun v => cutR.cutW P get t v (lo.map lk) (hi.map lk) (mx.map lk) := by
    simp only [subOp, cutR.cutW]
    cases lk x with
    | none => rfl
    | some v =>
      simp only [Option.bind_some]
      congr 1; funext r
      obtain ⟨id, b, len⟩ := r
      simp only
      congr 1; funext el; congr 1; funext n; congr 1; funext bk
      cases bk with
      | cells => rfl
      | vec t' s es ver wr =>
        simp only
        congr 1; funext l; congr 1; funext hh
        cases mx <;> cases hi <;> rfl
  rw [hp, hs, hv, hsub]
  cases h : lk x with
  | none =>
    simp only [Option.bind_none, cutR]
    cases cutV P t none (lo.map lk) (hi.map lk) (mx.map lk) <;> rfl
  | some v =>
    simp only [Option.bind_some]
    have other : winV get v = none → (match cutV P t (some v) (lo.map lk) (hi.map lk) (mx.map lk) with | some v => some (v, Upd.none) | none => match (none : Option (V × Upd)) with | some r => some r | none => match cutR.cutW P get t v (lo.map lk) (hi.map lk) (mx.map lk) with | some r => some r | none => none) = pureP (cutV P t (some v) (lo.map lk) (hi.map lk) (mx.map lk)) := fun hw => by
      have : cutR.cutW P get t v (lo.map lk) (hi.map lk) (mx.map lk) = none := by unfold cutR.cutW; rw [hw]; rfl
      rw [this]
      cases cutV P t (some v) (lo.map lk) (hi.map lk) (mx.map lk) <;> rfl
    cases v
    case vec id ver =>
      simp only [cutR]
      have : cutV P t (some (.vec id ver)) (lo.map lk) (hi.map lk) (mx.map lk) = none := rfl
      rw [this]
      generalize cutR.cutW P get t _ _ _ _ = q
      cases q <;> rfl
    case vsub id ver z a b =>
      simp only [cutR]
      have : cutV P t (some (.vsub id ver z a b)) (lo.map lk) (hi.map lk) (mx.map lk) = none := rfl
      rw [this]
      generalize cutR.cutW P get t _ _ _ _ = q
      cases q <;> rfl
    all_goals exact other rfl
@[simp] theorem OpO_slice {ty : TypeId} {x : Operand} {lo hi mx : Option Operand} : OpO C n dst (.slice ty x lo hi mx) ops r st K s = ResO C n (cutR C.P s.σ.get ty (lo.map (lkA C s.τ)) (hi.map (lkA C s.τ)) (mx.map (lkA C s.τ)) (lkA C s.τ x)) dst ops r st K s := by
  rw [OpO_plain (by simp), opA_slice]

/-- Clearing, copying. -/
def clearR (P : Program) (get : Id → Option Blk) (t : TypeId) : Option V → Option (V × Upd)
  | some v => (winV get v).bind fun (id, b, len) => (elemT P t).bind fun el => (sizeT P el).bind fun n => (zeroC P el).bind fun z => (get id).bind fun
      | .vec t' s es ver wr => if s = n ∧ z.cells.length = n ∧ wr = true then some (.tup [], if len = 0 then .none else .put id (.vec t' s (overL es b (List.replicate len z)) ver true)) else none
      | _ => none
  | none => none
@[simp] theorem OpO_clear {x : Operand} {t : TypeId} : OpO C n dst (.call { callee := .builtin .clear, args := #[x], argTypes := #[t] }) ops r st K s = ResO C n (clearR C.P s.σ.get t (lkA C s.τ x)) dst ops r st K s := by
  rw [OpO_builtin]
  congr 1
  unfold opA
  simp only [pureOp, allV, storeOp, subOp, vecOp]
  cases lkA C s.τ x with
  | none => rfl
  | some v =>
    simp only [Option.bind_some, lookV, clearR]
    generalize (winV s.σ.get v).bind _ = q
    cases q <;> rfl
def copyR (P : Program) (get : Id → Option Blk) (t ts : TypeId) : Option V → Option V → Option (V × Upd)
  | some v, some x => if sortT P ts = .slice then (winV get v).bind fun (id, b, len) => (elemT P t).bind fun el => (sizeT P el).bind fun n => (srcV P get n ts x).bind fun xs => (get id).bind fun
      | .vec t' s es ver wr => if s = n ∧ wr = true then
          some (.int .i64 (min xs.length len : Nat), if (xs.take len).length = 0 then .none else .put id (.vec t' s (overL es b (xs.take len)) ver true)) else none
      | _ => none
      else none
  | _, _ => none
@[simp] theorem OpO_copy {x y : Operand} {t u : TypeId} : OpO C n dst (.call { callee := .builtin .copy, args := #[x, y], argTypes := #[t, u] }) ops r st K s = ResO C n (copyR C.P s.σ.get t u (lkA C s.τ x) (lkA C s.τ y)) dst ops r st K s := by
  rw [OpO_builtin]
  congr 1
  unfold opA
  simp only [pureOp, allV, storeOp, subOp, vecOp]
  cases lkA C s.τ x with
  | none => by_cases hs : sortT C.P u = .slice <;> simp [hs, copyR]
  | some v =>
    cases lkA C s.τ y with
    | none => by_cases hs : sortT C.P u = .slice <;> simp [hs, copyR]
    | some x =>
      simp only [Option.bind_some, lookV, copyR]
      by_cases hs : sortT C.P u = .slice
      · simp only [hs, if_true]
        generalize (winV s.σ.get v).bind _ = q
        cases q <;> rfl
      · simp only [hs, if_false]

@[simp] theorem OpO_max {x y : Operand} {t u : TypeId} : OpO C n dst (.call { callee := .builtin .max, args := #[x, y], argTypes := #[t, u] }) ops r st K s =
    ResO C n (pureP ((lkA C s.τ x).bind fun a => (lkA C s.τ y).bind fun b => lookV C.P .max [t, u] [a, b])) dst ops r st K s := by
  rw [OpO_builtin, opA_pure rfl rfl rfl]
  congr 2
  simp only [pureOp, allV]
  cases lkA C s.τ x with
  | none => rfl
  | some a => cases lkA C s.τ y <;> rfl
@[simp] theorem OpO_min {x y : Operand} {t u : TypeId} : OpO C n dst (.call { callee := .builtin .min, args := #[x, y], argTypes := #[t, u] }) ops r st K s =
    ResO C n (pureP ((lkA C s.τ x).bind fun a => (lkA C s.τ y).bind fun b => lookV C.P .min [t, u] [a, b])) dst ops r st K s := by
  rw [OpO_builtin, opA_pure rfl rfl rfl]
  congr 2
  simp only [pureOp, allV]
  cases lkA C s.τ x with
  | none => rfl
  | some a => cases lkA C s.τ y <;> rfl

/-- An element's address. -/
def idxR (P : Program) (t : TypeId) (get : Id → Option Blk) : Option V → Option V → Option (V × Upd)
  | some (.vec id ver), some (.int _ k) => (elemT P t).bind fun el => (sizeT P el).bind fun n => match get id with
      | some (.vec _ s es ver' _) => if ver = ver' ∧ s = n ∧ 0 ≤ k ∧ k.toNat < es.length then some (.eptr id ver s k.toNat 0, .none) else none
      | _ => none
  | some (.vsub id ver z lo len), some (.int _ k) => (winV get (.vsub id ver z lo len)).bind fun _ => (elemT P t).bind fun el => (sizeT P el).bind fun n =>
      if z = n ∧ 0 ≤ k ∧ k.toNat < len then some (.eptr id ver z (lo + k.toNat) 0, .none) else none
  | some a, some b => pureP (indexV P t a b)
  | _, _ => none
theorem opA_indexAddr {P : Program} {lk : Operand → Option V} {get : Id → Option Blk} {j : Id} {t : TypeId} {x i : Operand} : opA P lk get j (.indexAddr t x i) = idxR P t get (lk x) (lk i) := by
  unfold opA
  have hs : storeOp P lk get j (.indexAddr t x i) = none := rfl
  have hp : pureOp P lk (.indexAddr t x i) = (lk x).bind fun a => (lk i).bind fun b => indexV P t a b := rfl
  rw [hs, hp]
  simp only [subOp, vecOp]
  cases lk x with
  | none => cases lk i <;> rfl
  | some a =>
    cases lk i with
    | none => cases a <;> rfl
    | some b =>
      simp only [Option.bind_some]
      cases b
      case int k m =>
        cases a
        case vec id ver =>
          simp only [indexV, idxR]
          congr 1; funext el; congr 1; funext q
          cases get id with
          | none => rfl
          | some b => cases b <;> rfl
        case vsub id ver z lo len =>
          simp only [indexV, idxR]
          generalize (winV get _).bind _ = q
          cases q <;> rfl
        all_goals
          simp only [idxR, pureP]
          generalize indexV P t _ _ = q
          cases q <;> rfl
      all_goals
        simp only [pureP]
        cases a <;> simp only [idxR, pureP] <;> (generalize indexV P t _ _ = q; cases q <;> rfl)
@[simp] theorem OpO_indexAddr {t : TypeId} {x i : Operand} : OpO C n dst (.indexAddr t x i) ops r st K s = ResO C n (idxR C.P t s.σ.get (lkA C s.τ x) (lkA C s.τ i)) dst ops r st K s := by
  rw [OpO_plain (by simp), opA_indexAddr]
theorem opA_vec {P : Program} {lk : Operand → Option V} {get : Id → Option Blk} {j : Id} {op : Op} (h1 : pureOp P lk op = none) (h2 : storeOp P lk get j op = none) (h3 : subOp P lk get op = none) : opA P lk get j op = vecOp P lk get j op := by
  unfold opA
  simp only [h1, h2, h3]
@[simp] theorem OpO_makeSlice {t : TypeId} {x y : Operand} : OpO C n dst (.makeSlice t x y) ops r st K s = ResO C n (vecOp C.P (lkA C s.τ) s.σ.get (s.lv, s.nx) (.makeSlice t x y)) dst ops r st K s := by
  rw [OpO_plain (by simp), opA_vec rfl rfl rfl]
@[simp] theorem OpO_build {t : TypeId} {ps : List (Nat × Operand)} : OpO C n dst (.build t ps.toArray) ops r st K s = ResO C n (pureP ((partsV (lkA C s.τ) ps).bind fun ps => buildV C.P t ps)) dst ops r st K s := by
  rw [OpO_plain (by simp), opA_vec rfl rfl rfl]
  congr 1
  show (partsV (lkA C s.τ) ps).bind _ = _
  cases partsV (lkA C s.τ) ps <;> rfl
/-- A literal slice: is it one's own? -/
def LitO (C : Ctx) (n : Nat) (b : Bool) (t len : Nat) (ps : List (Nat × Operand)) (dst : Option Tmp) (ops : Array Oper) (r : List Oper) (st : List Fr) (K : AExit → ASt → Prop) (s : ASt) : Prop :=
  if b = true then ResO C n (litR C.P (lkA C s.τ) (s.lv, s.nx) t len ps) dst ops r st K s
  else ResO C n (pureP ((partsV (lkA C s.τ) ps).bind fun ps => (litV C.P t len ps).map fun es => if len = 0 then .snil else .slice es)) dst ops r st K s
@[simp] theorem OpO_buildSlice {t len : Nat} {ps : List (Nat × Operand)} : OpO C n dst (.buildSlice t len ps.toArray) ops r st K s = LitO C n (C.own.contains t && !quiet st) t len ps dst ops r st K s := by
  unfold OpO LitO
  by_cases hc : (C.own.contains t && !quiet st) = true
  · rw [if_pos hc]
    unfold stepS ResO
    simp only [if_pos hc]
    rfl
  · rw [if_neg hc]
    unfold stepS
    simp only [if_neg hc]
    have : opA C.P (lkA C s.τ) s.σ.get (s.lv, s.nx) (.buildSlice t len ps.toArray) = pureP ((partsV (lkA C s.τ) ps).bind fun ps => (litV C.P t len ps).map fun es => if len = 0 then .snil else .slice es) := by
      rw [opA_vec rfl rfl rfl]
      show (partsV (lkA C s.τ) ps).bind _ = _
      cases partsV (lkA C s.τ) ps with
      | none => rfl
      | some p => simp only [Option.bind_some, pureP, Option.map_map]; rfl
    show plainS C _ s _ = _
    unfold plainS ResO
    rw [this]
@[simp] theorem LitO_true {t len : Nat} {ps : List (Nat × Operand)} : LitO C n true t len ps dst ops r st K s = ResO C n (litR C.P (lkA C s.τ) (s.lv, s.nx) t len ps) dst ops r st K s := rfl
@[simp] theorem LitO_false {t len : Nat} {ps : List (Nat × Operand)} : LitO C n false t len ps dst ops r st K s = ResO C n (pureP ((partsV (lkA C s.τ) ps).bind fun ps => (litV C.P t len ps).map fun es => if len = 0 then .snil else .slice es)) dst ops r st K s := rfl
@[simp] theorem quiet_nil : quiet [] = false := rfl
@[simp] theorem quiet_seq {c : Code} : quiet (.seq c :: st) = false := rfl
@[simp] theorem quiet_blk {i : Nat} : quiet (.blk i :: st) = false := rfl
@[simp] theorem quiet_draw : quiet (.draw :: st) = true := rfl

/-- A call that waits for its contract. -/
def CallF (C : Ctx) (n : Nat) (f : FuncId) (args : List V) (dst : Option Tmp) (ops : Array Oper) (r : List Oper) (st : List Fr) (K : AExit → ASt → Prop) (s : ASt) : Prop :=
  ACallQ C (quiet st) f args s (fun v σ' => dstOk s.n dst = true ∧ go C n (.ops ops r) st K (({ s with σ := σ' } : ASt).putD dst v)) (fun v σ' => K (.panic v) { s with σ := σ' })
def CallO (C : Ctx) (n : Nat) (fv : Option V) (vs : Option (List V)) (dst : Option Tmp) (ops : Array Oper) (r : List Oper) (st : List Fr) (K : AExit → ASt → Prop) (s : ASt) : Prop :=
  dstOk s.n dst = true ∧ callS C (quiet st) fv vs s (fun v σ' => go C n (.ops ops r) st K (({ s with σ := σ' } : ASt).putD dst v)) (fun v σ' => K (.panic v) { s with σ := σ' })
@[simp] theorem OpO_call {f : Operand} {l : List Operand} {ats : Array TypeId} : OpO C n dst (.call { callee := .value f, args := l.toArray, argTypes := ats }) ops r st K s = CallO C n (lkA C s.τ f) (allV (lkA C s.τ) l) dst ops r st K s := rfl
theorem acall_and {q : Bool} {f : FuncId} {args : List V} {s : ASt} {K X : V → Store → Prop} {p : Prop} (hp : p) : ACallQ C q f args s (fun v σ' => p ∧ K v σ') X = ACallQ C q f args s K X := by
  have : (fun v σ' => p ∧ K v σ') = K := by funext v σ'; simp [hp]
  rw [this]
@[simp] theorem CallO_some {t : Nat} {f : FuncId} {cap args : List V} : CallO C n (some (.func (.func f) [] cap)) (some args) (some t) ops r st K ⟨τ, σ, N, lv, nx⟩ = (t < N ∧ CallF C n f (args ++ cap) (some t) ops r st K ⟨τ, σ, N, lv, nx⟩) := by
  unfold CallO CallF
  rw [callS_some]
  apply propext
  constructor
  · rintro ⟨h1, h2⟩
    exact ⟨by simpa [dstOk] using h1, by rw [acall_and h1]; exact h2⟩
  · rintro ⟨h1, h2⟩
    have h1' : dstOk (⟨τ, σ, N, lv, nx⟩ : ASt).n (some t) = true := by simpa [dstOk] using h1
    rw [acall_and h1'] at h2
    exact ⟨h1', h2⟩
@[simp] theorem CallO_none {f : FuncId} {cap args : List V} : CallO C n (some (.func (.func f) [] cap)) (some args) none ops r st K s = CallF C n f (args ++ cap) none ops r st K s := by
  unfold CallO CallF
  rw [callS_some, acall_and (by rfl)]
  simp [dstOk]

theorem only_all (σ : Store) : σ.only σ.keys = σ := by
  unfold Store.only
  rw [List.filter_eq_self]
  intro x hx
  exact List.contains_iff_mem.2 (List.mem_map.2 ⟨x, hx, rfl⟩)
theorem frzL_refl {σ : Store} : ∀ vs : List V, FrzL σ vs vs
  | [] => .nil
  | v :: vs => .cons (.refl v) (frzL_refl vs)
theorem CallF.pure {f : FuncId} {args : List V} {t : Nat} (h : APure C f args v) (ht : t < N) (hk : go C n (.ops ops r) st K ⟨(t, v) :: τ, σ, N, lv, nx⟩) : CallF C n f args (some t) ops r st K ⟨τ, σ, N, lv, nx⟩ := by
  unfold CallF
  cases quiet st with
  | true => exact ⟨args, v, [], h, frzL_refl _, .inl rfl, by simpa [dstOk] using ht, hk⟩
  | false => exact acall_pure h ⟨by simpa [dstOk] using ht, hk⟩
theorem CallF.borrow {f : FuncId} {args args' : List V} {t : Nat} (h : APure C f args' v) (hz : FrzL σ args args') (hf : v.flat = true) (ht : t < N) (hk : go C n (.ops ops r) st K ⟨(t, v) :: τ, σ, N, lv, nx⟩) : CallF C n f args (some t) ops r st K ⟨τ, σ, N, lv, nx⟩ := by
  unfold CallF
  cases quiet st with
  | true => exact ⟨args', v, σ.keys, h, by rw [only_all]; exact hz, .inr hf, by simpa [dstOk] using ht, hk⟩
  | false => exact acall_borrow h hz hf ⟨by simpa [dstOk] using ht, hk⟩
theorem CallF.sealed {f : FuncId} {args args' : List V} {t : Nat} (ids : List Id) (h : APure C f args' v) (hz : FixL (Store.only σ ids) args args') (ht : t < N) (hq : quiet st = false) (hk : go C n (.ops ops r) st K ⟨(t, v) :: τ, Store.sealed σ ids, N, lv, nx⟩) : CallF C n f args (some t) ops r st K ⟨τ, σ, N, lv, nx⟩ := by
  unfold CallF
  rw [hq]
  exact acall_seal ids h hz ⟨by simpa [dstOk] using ht, hk⟩
/-- A call by a contract of any kind, on part of the store. -/
theorem CallF.gen {f : FuncId} {args : List V} {t : Nat} {σin : Store} {R : Nat → AOut → Store → Prop} (h : AFn C f args σin R) (hs : ∀ x, x ∈ σin → x ∈ σ) (hn : σin.keys.Nodup) (ht : t < N) (hq : quiet st = false)
    (hk : ∀ L v σ', lv < L → (∀ id, id ∈ σ.keys → id.1 < L) → R L (.ret v) σ' → go C n (.ops ops r) st K ⟨(t, v) :: τ, σ' ++ σ.less σin, N, lv, nx⟩)
    (hp : ∀ L v σ', lv < L → (∀ id, id ∈ σ.keys → id.1 < L) → R L (.pan v) σ' → K (.panic v) ⟨τ, σ' ++ σ.less σin, N, lv, nx⟩) : CallF C n f args (some t) ops r st K ⟨τ, σ, N, lv, nx⟩ := by
  unfold CallF
  rw [hq]
  refine acall_of (s := ⟨τ, σ, N, lv, nx⟩) h hs hn fun L o σ' h1 h2 h3 => ?_
  cases o with
  | ret v => exact ⟨by simpa [dstOk] using ht, hk L v σ' h1 h2 h3⟩
  | pan v => exact hp L v σ' h1 h2 h3
end opRules
end rules
end

section
variable {C : Ctx}

/-- What a function's end must show. -/
structure Ended (C : Ctx) (rs : List ResultVar) (L : Nat) (R : Nat → AOut → Store → Prop) (s : ASt) : Prop where
  h : ∃ vs v' σd σk, resAll C.P s rs = some vs ∧ (∀ x, x ∈ σk → x ∈ s.σ) ∧ (∀ x, x ∈ σd → x ∈ s.σ) ∧ (Store.keys σk).Nodup ∧ (∀ id, id ∈ Store.keys σk → id ∉ Store.keys σd) ∧
    Frz σd (match vs with | [v] => v | vs => .tup vs) v' ∧ R L (.ret v') σk

/-- **The entry**: what follows stands behind K. -/
theorem afn_enter {f : FuncId} {fn : Func} {c : Code} {n : Nat} {rs : List ResultVar} {args : List V} {σ : Store} {R : Nat → AOut → Store → Prop} (hf : C.P.funcs[f]? = some fn) (hb : fn.body = some c) (hnt : fn.ntmps = n) (hrs : fn.results.toList = rs)
    (hname : (fn.name == "runtime.NumGoroutine") = false) (hn : args.length ≤ n) (hcode : codeOk C.ex c = true)
    (h : ∀ L K, (∀ id, id ∈ σ.keys → id.1 < L) → (∀ s, Ended C rs L R s → K .ret s) → (∀ s, Ended C rs L R s → K .normal s) →
      (∀ s v v' σd σk, (∀ x, x ∈ σk → x ∈ s.σ) → (∀ x, x ∈ σd → x ∈ s.σ) → (Store.keys σk).Nodup → (∀ id, id ∈ Store.keys σk → id ∉ Store.keys σd) → Frz σd v v' → R L (.pan v') σk → K (.panic v) s) →
      go C 1000000 (.code c) [] K ⟨argsT 0 args, σ, n, L, 0⟩) : AFn C f args σ R := by
  subst hnt; subst hrs
  refine afn_of hf hb hname hn fun L hL => go_sound 1000000 (.code c) [] _ _ (fun c' e => by cases e; exact hcode) rfl (h L (Ends C fn L R) hL ?_ ?_ ?_)
  · rintro s ⟨vs, v', σd, σk, h1, h2, h3, h4, h5, h6, h7⟩
    exact ⟨_, v', σd, σk, by unfold resV; rw [h1]; rfl, h2, h3, h4, h5, h6, h7⟩
  · rintro s ⟨vs, v', σd, σk, h1, h2, h3, h4, h5, h6, h7⟩
    exact ⟨_, v', σd, σk, by unfold resV; rw [h1]; rfl, h2, h3, h4, h5, h6, h7⟩
  · intro s v v' σd σk h2 h3 h4 h5 h6 h7
    exact ⟨v', σd, σk, h2, h3, h4, h5, h6, h7⟩

/-- A value is handed back, and nothing of the store. -/
theorem Ended.pure {rs : List ResultVar} {L : Nat} {s : ASt} {v v' : V} (h : resAll C.P s rs = some [v]) (hz : Frz s.σ v v') : Ended C rs L (fun _ o σ' => o = .ret v' ∧ σ' = []) s :=
  ⟨_, v', s.σ, [], h, by simp, fun _ h => h, by simp [Store.keys], by simp [Store.keys], hz, rfl, rfl⟩

theorem Ended.pures {rs : List ResultVar} {L : Nat} {s : ASt} {vs : List V} {v' : V} (h : resAll C.P s rs = some vs) (hl : vs.length ≠ 1) (hz : Frz s.σ (.tup vs) v') : Ended C rs L (fun _ o σ' => o = .ret v' ∧ σ' = []) s := by
  refine ⟨_, v', s.σ, [], h, by simp, fun _ h => h, by simp [Store.keys], by simp [Store.keys], ?_, rfl, rfl⟩
  match vs, hl with
  | [], _ => exact hz
  | _ :: _ :: _, _ => exact hz

/-- Some of it is forgotten. -/
theorem turn_weak {s : ASt} {τ' : List (Nat × V)} {σ' : Store} (hτ : ∀ p, p ∈ τ' → s.τ.lookup p.1 = some p.2) (hσ : ∀ x, x ∈ σ' → x ∈ s.σ) (hn : s.σ.keys.Nodup → σ'.keys.Nodup) : Turn C s { s with τ := τ', σ := σ' } := fun E a hr => by
  have hl : ∀ (l : List (Nat × V)) t v, l.lookup t = some v → (t, v) ∈ l := fun l t v h => by
    induction l with
    | nil => cases h
    | cons x l ih =>
      obtain ⟨k, u⟩ := x
      simp only [List.lookup_cons] at h
      split at h
      · rename_i e; have e := eq_of_beq e; cases h; subst e; exact List.mem_cons_self
      · exact List.mem_cons_of_mem _ (ih h)
  have hk : ∀ id, id ∈ σ'.keys → id ∈ s.σ.keys := fun id hi => by
    obtain ⟨x, hx, rfl⟩ := List.mem_map.1 hi
    exact List.mem_map.2 ⟨x, hσ x hx, rfl⟩
  refine ⟨E, rfl, ⟨fun t v hv => hr.tmp t v (hτ _ (hl _ _ _ hv)), hr.size, hr.store.part hσ (hn hr.store.nodup), hr.own, hr.glob⟩, (Grow.refl E s.σ).drop hk, rfl, fun _ _ h => h⟩

/-- **The loop**, with a relation: I, S the state, J what is known, μ what falls. -/
theorem loopJ {c : Code} {st : List Fr} {K : AExit → ASt → Prop} {s : ASt} {α : Type} (J : α → Prop) (I : α → List (Nat × V)) (S : α → Store) (μ : α → Nat) (x₀ : α) (j₀ : J x₀) (h₀ : Turn C s { s with τ := I x₀, σ := S x₀ })
    (round : ∀ x L K', J x → s.lv < L → (∀ id, id ∈ (S x).keys → id.1 ≠ L) →
      (∀ s' x', J x' → μ x' < μ x → Turn C { s' with lv := s.lv, nx := s.nx } { s with τ := I x', σ := S x' } → K' .normal s') →
      (∀ id s', go C 1000000 (.exit id) st K { s' with lv := s.lv, nx := s.nx } → K' (.exit id) s') →
      (∀ s', K .ret { s' with lv := s.lv, nx := s.nx } → K' .ret s') →
      (∀ l s', K (.goto l) { s' with lv := s.lv, nx := s.nx } → K' (.goto l) s') →
      (∀ v s', K (.panic v) { s' with lv := s.lv, nx := s.nx } → K' (.panic v) s') →
      go C 1000000 (.code c) [] K' { s with τ := I x, σ := S x, lv := L, nx := 0 }) :
    Wait C (.loop c) st K s := by
  intro hcode hst
  refine aw_loop (α := { x // J x }) (fun x => I x.1) (fun x => S x.1) (fun x => μ x.1) ⟨x₀, j₀⟩ h₀ fun x L hL hk => ?_
  refine go_sound 1000000 (.code c) [] _ _ (fun c' e => by cases e; exact hcode) rfl (round x.1 L _ x.2 hL hk ?_ ?_ ?_ ?_ ?_)
  · intro s' x' jx hlt ht
    exact ⟨⟨x', jx⟩, hlt, ht⟩
  · intro id s' h
    exact go_sound _ _ _ _ _ (fun c e => by cases e) hst h
  · intro s' h
    show unst C st K .ret _
    rw [unst_ret]; exact h
  · intro l s' h
    show unst C st K (.goto l) _
    rw [unst_goto]; exact h
  · intro v s' h
    show unst C st K (.panic v) _
    rw [unst_panic]; exact h
end
end Go.Awp

/- AWP, text 22: turns of the description; helpers for walks. -/
namespace Go.Awp
open Go

attribute [simp] litR lkA allV List.lookup_cons Option.bind_some Option.map_some ofV ofS lookV binV unV convV partsV buildV fillV litV vecOp eqV eqFs indexV faddrV partV fitV setL Store.get V.cells V.wf V.scalar Store.put argsT loadR storeOp boolAt dstAt lenR idxR appR appV appS srcV winV cutR cutR.cutW cutV cutS cut0 bndV clearR copyR Store.less Store.keys V.flat V.flatL pickV

section
variable {C : Ctx} {K : AExit → ASt → Prop} {st : List Fr} {τ : List (Nat × V)} {σ : Store} {N lv nx : Nat}

theorem wait_turn {c : Code} {s s' : ASt} (ht : Turn C s s') (h : Wait C c st K s') : Wait C c st K s := fun h1 h2 => aw_turn ht (h h1 h2)

theorem turn_thaw {t el sz : Nat} (h : τ.lookup t = some .snil) (h0 : 0 < sz) : Turn C ⟨τ, σ, N, lv, nx⟩ ⟨(t, .vec (lv, nx) 0) :: τ, ((lv, nx), .vec el sz [] 0 true) :: σ, N, lv, nx + 1⟩ := fun E a hr => by
  have hrep := hr.tmp t _ h
  obtain ⟨ad, hcv⟩ : ∃ ad, a.tmps.getD t undef = .slice ad 0 0 := by
    revert hrep; generalize a.tmps.getD t undef = y; intro hy; cases hy; exact ⟨_, rfl⟩
  have hj : E.ι (lv, nx) = .unborn := hr.own nx (Nat.le_refl _)
  obtain ⟨h1, h2, h3⟩ := thaw hr.store hj el sz h0 ad
  refine ⟨⟨E.I, fun i => if i = (lv, nx) then .vec (.slice ad 0 0) 0 else E.ι i, E.w⟩, rfl, ⟨fun u v hu => ?_, hr.size, h1, fun k hk => ?_, hr.glob.mono h2.le⟩, h2, rfl, fun id hi hu => h3 id (fun e => by subst e; exact Nat.lt_irrefl _ hi) hu⟩
  · have hu : List.lookup u ((t, V.vec (lv, nx) 0) :: τ) = some v := hu
    rw [List.lookup_cons] at hu
    split at hu
    · rename_i e
      have e := eq_of_beq e
      cases hu
      subst e
      rw [hcv]
      exact .vec (by simp) (Nat.le_refl _) fun _ => rfl
    · exact (hr.tmp u v hu).mono h2.le
  · have hk : nx + 1 ≤ k := hk
    exact h3 (lv, k) (fun e => by cases e; omega) (hr.own k (by show nx ≤ k; omega))

theorem turn_cut {t id ver z len el : Nat} {j : Nat} {es : List V} (h : τ.lookup t = some (.vsub (id, j) ver z 0 len)) (hg : σ.get (id, j) = some (.vec el z es ver true)) (hl : len ≤ es.length) :
    Turn C ⟨τ, σ, N, lv, nx⟩ ⟨(t, .vec (id, j) (ver + 1)) :: τ, σ.put (id, j) (.vec el z (es.take len) (ver + 1) true), N, lv, nx⟩ := fun E a hr => by
  have hrep := hr.tmp t _ h
  have hm := Store.get_mem hg
  obtain ⟨hv, xs, eι, hown, hxs, hes, h0, hI⟩ := hr.store.blk _ _ hm
  obtain ⟨ad, c, hcv, b, n, c0, rfl, q1, q2, q3, q4⟩ : ∃ ad c, a.tmps.getD t undef = .slice ad len c ∧ ∃ b n c0, hv = .slice b n c0 ∧ 0 + len ≤ n ∧ n ≤ c0 ∧ c = c0 - 0 ∧ (0 < c0 → ad = b.map (·.add (0 * z))) := by
    revert hrep; generalize a.tmps.getD t undef = y; intro hy
    cases hy with
    | vsub h1 h2 h3 => rw [eι] at h1; cases h1; exact ⟨_, _, rfl, h3 rfl⟩
  have hxl : xs.length = es.length * z := hown.1
  have hmul : len * z ≤ es.length * z := Nat.mul_le_mul_right _ hl
  have hec : ∀ e ∈ es, e.cells.length = z := fun e he => (hes e he).1
  have hlen : (es.take len).length = len := by simp; omega
  have hnew : Owns E.w el z (.slice ad len c) len (xs.take (len * z)) ∧ hblk (.slice ad len c) = hblk (.slice b n c0) := by
    refine ⟨⟨by simp; omega, ?_⟩, ?_⟩
    · rcases hown.2 with ⟨a1, e1, e2⟩ | ⟨g, cap, cur, hc0, e1, hg', hcap, hmax, hcs, htk⟩
      · injection e1 with e3 e4 e5
        have e6 : c = 0 := by omega
        have e7 : len = 0 := by omega
        subst e6; subst e7
        exact .inl ⟨ad, rfl, rfl⟩
      · cases e1
        have := q4 hc0
        simp only [Option.map_some, Addr.add_mid, Nat.zero_mul, Nat.zero_add] at this
        subst this
        refine .inr ⟨g, c, cur, by omega, rfl, hg', by omega, by omega, by rw [hcs]; congr 1; omega, ?_⟩
        rw [← htk, List.take_take, Nat.min_eq_left hmul]
    · rcases hown.2 with ⟨a1, e1, e2⟩ | ⟨g, cap, cur, hc0, e1, _⟩
      · injection e1 with e3 e4 e5
        have e6 : c = 0 := by omega
        subst e5; subst e6
        cases ad <;> cases b <;> simp [hblk]
      · cases e1
        have := q4 hc0
        simp only [Option.map_some, Addr.add_mid, Nat.zero_mul, Nat.zero_add] at this
        subst this
        have : c = c0 := by omega
        subst this; rfl
  have hnoI : ∀ q, (E.ι (id, j)).block = some q → ∀ o, ¬ E.I q o := fun q hq o hi => by
    rw [eι] at hq
    have := (hI q hq o hi).1; cases this
  have key := write_vec hr.store hm (.slice ad len c) (ver + 1) E.w (k' := .vec el z (es.take len) (ver + 1) true) (by rw [eι]; exact ⟨_, _, rfl, Nat.le_succ _, fun e => absurd e (by omega)⟩) rfl rfl rfl (Nat.le_refl _)
    (fun _ _ _ => rfl) (fun q hq o hi => absurd hi (hnoI q hq o)) (fun q hq => .inl (by rw [eι]; rw [hnew.2] at hq; exact hq))
  obtain ⟨g1, g2, g3⟩ := key fun hle => by
    refine ⟨.slice ad len c, xs.take (len * z), by simp, by rw [hlen]; exact hnew.1, ?_, fun e he => hes e (List.mem_of_mem_take he), h0, fun q hq o hi => ?_⟩
    · rw [flat_take hec]; exact (hxs.take _).mono hle
    · refine absurd hi (hnoI q ?_ o)
      rw [eι]; rw [hnew.2] at hq; exact hq
  refine ⟨⟨E.I, fun i => if i = (id, j) then .vec (.slice ad len c) (ver + 1) else E.ι i, E.w⟩, rfl, ⟨fun u v hu => ?_, hr.size, g1, fun k hk => g3 _ (hr.own k hk), hr.glob.mono g2.le⟩, g2, rfl, fun i _ hu => g3 i hu⟩
  have hu : List.lookup u ((t, V.vec (id, j) (ver + 1)) :: τ) = some v := hu
  rw [List.lookup_cons] at hu
  split at hu
  · rename_i e
    have e := eq_of_beq e
    cases hu
    subst e
    rw [hcv]
    exact .vec (by simp) (Nat.le_refl _) fun _ => rfl
  · exact (hr.tmp u v hu).mono g2.le

theorem wr1 (k : Nat) (h : k < 9223372036854775807) : IntKind.i64.wrap ((k : Int) + 1) = (k : Int) + 1 := wrap_i64 (by omega) (by omega)
end
end Go.Awp

/- AWP, text 23: what is given up by part; nil slices in memory that become one's own; helpers for walks. -/
namespace Go.Awp
open Go

/-- A block whose content refers to what was given up. -/
inductive FrzB (σd : Store) : Blk → Blk → Prop
  | cells {t : TypeId} {cs cs' : List V} (h : FrzL σd cs cs') : FrzB σd (.cells t cs) (.cells t cs')
  | vec {t : TypeId} {s : Nat} {es es' : List V} {ver : Nat} {wr : Bool} (h : FrzL σd es es') : FrzB σd (.vec t s es ver wr) (.vec t s es' ver wr)

theorem FrzB.refl {σd : Store} : ∀ b : Blk, FrzB σd b b
  | .cells _ cs => .cells (frzL_refl cs)
  | .vec _ _ es _ _ => .vec (frzL_refl es)

/-- A store, block by block. -/
inductive FrzS (σd : Store) : Store → Store → Prop
  | nil : FrzS σd [] []
  | cons {id : Id} {b b' : Blk} {σ σ' : Store} (h : FrzB σd b b') (k : FrzS σd σ σ') : FrzS σd ((id, b) :: σ) ((id, b') :: σ')

theorem FrzS.refl {σd : Store} : ∀ σ : Store, FrzS σd σ σ
  | [] => .nil
  | (_, b) :: σ => .cons (.refl b) (.refl σ)

theorem FrzS.keys {σd σ σ' : Store} (h : FrzS σd σ σ') : σ'.keys = σ.keys := by
  induction h with
  | nil => rfl
  | cons h k ih => simp only [Store.keys, List.map_cons] at ih ⊢; rw [ih]

theorem FrzS.mem {σd σ σ' : Store} (h : FrzS σd σ σ') {id : Id} {b' : Blk} (hm : (id, b') ∈ σ') : ∃ b, (id, b) ∈ σ ∧ FrzB σd b b' := by
  induction h with
  | nil => cases hm
  | cons h k ih =>
    rcases List.mem_cons.1 hm with e | hm
    · cases e; exact ⟨_, List.mem_cons_self, h⟩
    · obtain ⟨b, hb, hk⟩ := ih hm; exact ⟨b, List.mem_cons_of_mem _ hb, hk⟩

section
variable {C : Ctx} {E : Amb}

theorem frzL_ok {σ : Store} (hs : ∀ id b, (id, b) ∈ σ → BlkRel E id b) : ∀ {vs vs' : List V}, FrzL σ vs vs' → FrzLOk E (E.sealed σ) vs vs'
  | [], _, h => by cases h; exact ⟨fun _ h => h.mono seal_le, fun _ h => h.mono seal_le, rfl, fun _ h => h, fun h => h⟩
  | v :: vs, _, h => by
    cases h with | cons h k =>
    have i1 := frz_ok hs h
    have i2 := frzL_ok hs k
    refine ⟨fun cvs hr => ?_, fun cvs hr => ?_, by simp [i2.len], fun s hs e he => ?_, fun hs e he => ?_⟩
    · cases hr with | cons a b => exact .cons (i1.rep _ a) (i2.rep _ b)
    · simp only [List.flatMap_cons] at hr ⊢
      obtain ⟨a, b, rfl, ha, hb⟩ := hr.split
      exact (i1.cells _ ha).append (i2.flat _ hb)
    · rcases List.mem_cons.1 he with rfl | he
      · have := hs _ List.mem_cons_self
        exact ⟨i1.len.trans this.1, i1.ok this.2⟩
      · exact i2.elems s (fun e he => hs e (List.mem_cons_of_mem _ he)) e he
    · rcases List.mem_cons.1 he with rfl | he
      · exact i1.scal (hs _ List.mem_cons_self)
      · exact i2.scal (fun e he => hs e (List.mem_cons_of_mem _ he)) e he

theorem BlkRel.frz {σd : Store} (hs : ∀ id b, (id, b) ∈ σd → BlkRel E id b) {id : Id} {b b' : Blk} (h : BlkRel E id b) (hk : BlkRel (E.sealed σd) id b) (hf : FrzB σd b b') : BlkRel (E.sealed σd) id b' := by
  cases hf with
  | cells hf =>
    obtain ⟨g, c, e, hg, hr, hsc, hi⟩ := h
    obtain ⟨g', c', e', hg', hr', hsc', hi'⟩ := hk
    have e1 : E.ι id = .cells g' := e'
    rw [e] at e1; cases e1
    have q := frzL_ok hs hf
    exact ⟨g, c, e, hg, q.rep _ hr, q.scal hsc, hi'⟩
  | vec hf =>
    obtain ⟨hv, xs, e, ho, hr, hes, h0, hi⟩ := h
    obtain ⟨hv', xs', e', ho', hr', hes', h0', hi'⟩ := hk
    have e1 : E.ι id = .vec hv' _ := e'
    rw [e] at e1; cases e1
    have q := frzL_ok hs hf
    exact ⟨hv, xs, e, by rw [q.len]; exact ho, q.flat _ hr, q.elems _ hes, h0, by rw [q.len]; exact hi'⟩

theorem lookup_mem' : ∀ (l : List (Nat × V)) t v, l.lookup t = some v → (t, v) ∈ l := fun l t v h => by
  induction l with
  | nil => cases h
  | cons x l ih =>
    obtain ⟨k, u⟩ := x
    simp only [List.lookup_cons] at h
    split at h
    · rename_i e; have e := eq_of_beq e; cases h; subst e; exact List.mem_cons_self
    · exact List.mem_cons_of_mem _ (ih h)

/-- **Part of the store is given up**; what refers to it refers to what does not change any more. -/
theorem turn_frz {s : ASt} (σd σk : Store) {τ' : List (Nat × V)} {σ' : Store} (hτ : ∀ p, p ∈ τ' → ∃ v, s.τ.lookup p.1 = some v ∧ Frz σd v p.2)
    (hk : ∀ x, x ∈ σk → x ∈ s.σ) (hd : ∀ x, x ∈ σd → x ∈ s.σ) (hkn : s.σ.keys.Nodup → σk.keys.Nodup) (hdis : s.σ.keys.Nodup → ∀ id, id ∈ σk.keys → id ∉ σd.keys) (hσ : FrzS σd σk σ') :
    Turn C s { s with τ := τ', σ := σ' } := fun E a hr => by
  have hblkd : ∀ id b, (id, b) ∈ σd → BlkRel E id b := fun id b hm => hr.store.blk id b (hd _ hm)
  obtain ⟨q1, q2⟩ := seal_store hr.store hk hd (hkn hr.store.nodup) (hdis hr.store.nodup)
  have hkeys := hσ.keys
  have q3 : StoreRel (E.sealed σd) σ' := by
    refine ⟨fun id b hm => ?_, by rw [hkeys]; exact q1.nodup, by rw [hkeys]; exact q1.apart, q1.imm, q1.fin⟩
    obtain ⟨b0, hm0, hf⟩ := hσ.mem hm
    exact (hr.store.blk id b0 (hk _ hm0)).frz hblkd (q1.blk id b0 hm0) hf
  refine ⟨E.sealed σd, rfl, ⟨fun t v hv => ?_, hr.size, q3, hr.own, hr.glob.mono q2.le⟩, q2.drop fun id hi => by rw [hkeys] at hi; exact hi, rfl, fun _ _ h => h⟩
  obtain ⟨u, hu, hz⟩ := hτ _ (lookup_mem' _ _ _ hv)
  exact frz_part hr.store hd hz _ (hr.tmp _ _ hu)

/-- Another description of a block's content. -/
theorem StoreRel.swap {σ : Store} (h : StoreRel E σ) {id : Id} {b' : Blk} (hb : BlkRel E id b') : StoreRel E (σ.put id b') := by
  refine ⟨fun i b hm => ?_, by rw [Store.put_keys]; exact h.nodup, by rw [Store.put_keys]; exact h.apart, h.imm, h.fin⟩
  rcases Store.mem_put hm with e | ⟨hm, _⟩
  · cases e; exact hb
  · exact h.blk _ _ hm

section
variable {τ : List (Nat × V)} {σ : Store} {N lv nx : Nat}

theorem repL_set {vs : List V} {cvs : List Value} {i : Nat} {v v' : V} (h : RepL E vs cvs) (hi : vs[i]? = some v) (hv : ∀ cv, cvs[i]? = some cv → Rep E v' cv) : RepL E (vs.set i v') cvs := by
  obtain ⟨cv, hc, _⟩ := h.get hi
  have h2 := h.set i (hv cv hc)
  obtain ⟨hlt, he⟩ := List.getElem?_eq_some_iff.1 hc
  rwa [show cvs.set i cv = cvs from by rw [← he]; exact List.set_getElem_self hlt] at h2

theorem flat_one {es : List V} {i : Nat} {v' : V} (hu : ∀ e ∈ es, e.cells.length = 1) (h2 : v'.cells = [v']) : (es.set i v').flatMap V.cells = (es.flatMap V.cells).set i v' := by
  induction es generalizing i with
  | nil => simp
  | cons x es ih =>
    obtain ⟨y, hy⟩ := List.length_eq_one_iff.1 (hu x List.mem_cons_self)
    cases i with
    | zero => simp [hy, h2, -V.cells]
    | succ i => simp [hy, ih fun e he => hu e (List.mem_cons_of_mem _ he), -V.cells]

theorem flat_one_get {es : List V} {i : Nat} {e : V} (hu : ∀ e ∈ es, e.cells.length = 1) (hi : es[i]? = some e) (h2 : e.cells = [e]) : (es.flatMap V.cells)[i]? = some e := by
  induction es generalizing i with
  | nil => simp at hi
  | cons x es ih =>
    obtain ⟨y, hy⟩ := List.length_eq_one_iff.1 (hu x List.mem_cons_self)
    cases i with
    | zero => simp at hi; subst hi; simp [h2, -V.cells]
    | succ i =>
      simp at hi
      have := ih (fun e he => hu e (List.mem_cons_of_mem _ he)) hi
      simpa [hy, -V.cells] using this

/-- The place in memory where a nil slice lies: from now on a slice of one's own. -/
theorem turn_thaw_put {id : Id} {b b' : Blk} {el sz : Nat} (hg : σ.get id = some b) (h0 : 0 < sz)
    (ha : ∀ E, BlkRel E id b → ∃ ad, ∀ E', E.Le E' → E'.w = E.w → E'.I = E.I → E'.ι id = E.ι id → E'.ι (lv, nx) = .vec (.slice ad 0 0) 0 → BlkRel E' id b') :
    Turn C ⟨τ, σ, N, lv, nx⟩ ⟨τ, ((lv, nx), .vec el sz [] 0 true) :: σ.put id b', N, lv, nx + 1⟩ := fun E a hr => by
  have hm := Store.get_mem hg
  have hb := hr.store.blk _ _ hm
  obtain ⟨ad, ha⟩ := ha E hb
  have hj : E.ι (lv, nx) = .unborn := hr.own nx (Nat.le_refl _)
  have hne : (lv, nx) ≠ id := fun e => hb.born (e ▸ hj)
  obtain ⟨h1, h2, h3⟩ := thaw hr.store hj el sz h0 ad
  let E' : Amb := ⟨E.I, fun i => if i = (lv, nx) then .vec (.slice ad 0 0) 0 else E.ι i, E.w⟩
  have hb' : BlkRel E' id b' := ha E' h2.le rfl rfl (by simp [E', Ne.symm hne]) (by simp [E'])
  have q := h1.swap hb'
  have hput : Store.put (((lv, nx), Blk.vec el sz [] 0 true) :: σ) id b' = ((lv, nx), Blk.vec el sz [] 0 true) :: σ.put id b' := by
    rw [Store.put, if_neg hne]
  rw [hput] at q
  refine ⟨E', rfl, ⟨fun u v hu => (hr.tmp u v hu).mono h2.le, hr.size, q, fun k hk => ?_, hr.glob.mono h2.le⟩, h2.drop fun i hi => ?_, rfl, fun id hi hu => h3 id (fun e => by subst e; exact Nat.lt_irrefl _ hi) hu⟩
  · have hk : nx + 1 ≤ k := hk
    exact h3 (lv, k) (fun e => by cases e; omega) (hr.own k (by show nx ≤ k; omega))
  · have e : Store.keys (((lv, nx), Blk.vec el sz [] 0 true) :: σ.put id b') = Store.keys (((lv, nx), Blk.vec el sz [] 0 true) :: σ) := by
      have := Store.put_keys σ id b'
      simp only [Store.keys, List.map_cons] at this ⊢; rw [this]
    rw [e] at hi; exact hi

theorem snil_inv {cv : Value} (h : Rep E .snil cv) : ∃ ad, cv = .slice ad 0 0 := by cases h; exact ⟨_, rfl⟩

theorem turn_thawC {id : Id} {t o el sz : Nat} {cs : List V} (hg : σ.get id = some (.cells t cs)) (ho : cs[o]? = some .snil) (h0 : 0 < sz) :
    Turn C ⟨τ, σ, N, lv, nx⟩ ⟨τ, ((lv, nx), .vec el sz [] 0 true) :: σ.put id (.cells t (cs.set o (.vec (lv, nx) 0))), N, lv, nx + 1⟩ := by
  refine turn_thaw_put hg h0 fun E hb => ?_
  obtain ⟨b, c, e, hh, hr, hsc, hi⟩ := hb
  obtain ⟨cv, hcv, hrep⟩ := hr.get ho
  obtain ⟨ad, rfl⟩ := snil_inv hrep
  refine ⟨ad, fun E' hle hw hI hid hι => ⟨b, c, by rw [hid, e], by rw [hw]; exact hh, repL_set (hr.mono hle) ho fun cv h2 => ?_, fun x hx => ?_, by rw [hI]; exact hi⟩⟩
  · rw [hcv] at h2; cases h2
    exact .vec hι (Nat.le_refl _) fun _ => rfl
  · rcases List.mem_or_eq_of_mem_set hx with hx | rfl
    · exact hsc x hx
    · rfl

theorem turn_thawV {id : Id} {t s i ver el sz : Nat} {es : List V} {wr : Bool} (hg : σ.get id = some (.vec t s es ver wr)) (ho : es[i]? = some .snil) (h0 : 0 < sz) :
    Turn C ⟨τ, σ, N, lv, nx⟩ ⟨τ, ((lv, nx), .vec el sz [] 0 true) :: σ.put id (.vec t s (es.set i (.vec (lv, nx) 0)) ver wr), N, lv, nx + 1⟩ := by
  refine turn_thaw_put hg h0 fun E hb => ?_
  obtain ⟨hv, xs, e, hown, hr, hes, hs0, hi⟩ := hb
  have h1 : s = 1 := ((hes _ (List.mem_of_getElem? ho)).1).symm
  subst h1
  have hu : ∀ e ∈ es, e.cells.length = 1 := fun e he => (hes e he).1
  have hf := flat_one_get hu ho rfl
  obtain ⟨cv, hcv, hrep⟩ := hr.get hf
  obtain ⟨ad, rfl⟩ := snil_inv hrep
  refine ⟨ad, fun E' hle hw hI hid hι => ⟨hv, xs, by rw [hid, e], by rw [hw, List.length_set]; exact hown, ?_, fun x hx => ?_, hs0, by rw [hI, List.length_set]; exact hi⟩⟩
  · rw [flat_one hu rfl]
    exact repL_set (hr.mono hle) hf fun cv h2 => by rw [hcv] at h2; cases h2; exact .vec hι (Nat.le_refl _) fun _ => rfl
  · rcases List.mem_or_eq_of_mem_set hx with hx | rfl
    · exact hes x hx
    · exact ⟨rfl, by intro c hc; simp [V.cells] at hc; subst hc; rfl⟩
end
end

/-! ### A test for nil -/
section
variable {C : Ctx} {P : Program}

theorem nil_run {t : TypeId} (h : sortT P t = .slice) (x y : Operand) (a : Option Addr) (n c : Nat) (w : World) :
    (do eqGuard .eql t x y (.slice a n c) (.slice none 0 0); binOp .eql t (.slice a n c) (.slice none 0 0) : Sem Value).run P w = .ok (.bool a.isNone) w := by
  obtain ⟨e, hu⟩ := sortT_slice h
  have h1 : eqGuard .eql t x y (.slice a n c) (.slice none 0 0) = pure () := rfl
  have h2 : binOp .eql t (.slice a n c) (.slice none 0 0) = (do return .bool (← Op.equal t (.slice a n c) (.slice none 0 0))) := rfl
  rw [h1, h2]
  simp only [Sem.run_bind, Sem.run_pure, Result.andThen_ok]
  have h3 : (Op.equal t (.slice a n c) (.slice none 0 0)).run P w = .ok a.isNone w := by
    refine run_equal (d := Op.maxDepth - 1) (by decide) ?_
    unfold Op.equalIn
    rw [Sem.run_bind, run_underlying hu w, Result.andThen_ok]
    cases a <;> rfl
  rw [h3]; rfl

variable {K : AExit → ASt → Prop} {st : List Fr} {τ : List (Nat × V)} {σ : Store} {N lv nx : Nat}

theorem slice_like {E : Amb} {es : List V} {cv : Value} (h : Rep E (.slice es) cv) : ∃ a n c, cv = .slice a n c ∧ (a = none → es = []) := by
  cases h with
  | slice0 a c => exact ⟨_, _, _, rfl, fun _ => rfl⟩
  | slice h1 h2 h3 h4 => exact ⟨_, _, _, rfl, fun e => by cases e⟩

/-- **Is a slice nil?** One that is read only: that it is empty is known, if it is. -/
theorem wait_nil {id ta tb : Nat} {x : Operand} {t u ty1 ty2 : TypeId} {p1 p2 : String} {a1 a2 : Array Edge} {es : List V} (hx : lkA C τ x = some (.slice es)) (ht : sortT C.P t = .slice) (h1 : ta < N) (h2 : tb < N)
    (hk : ∀ b : Bool, (b = true → es = []) → go C 1000000 .done (.blk id :: st) K ⟨(tb, .bool b) :: (ta, .slice es) :: τ, σ, N, lv, nx⟩) :
    Wait C (.region id #[{ dst := some ta, op := .move x, type := ty1, pos := p1, after := a1, guard := none }, { dst := some tb, op := .binOp .eql t (.tmp ta) (.const (.slice none 0 0)) u, type := ty2, pos := p2, after := a2, guard := none }] false) st K ⟨τ, σ, N, lv, nx⟩ := by
  intro hcode hst E a hr
  refine wp_region ?_
  have hrx := lkA_rep hr hx
  obtain ⟨ad, n, c, hcv, hn⟩ := slice_like hrx
  have hput := Rel.put (dst := some ta) hr (by simpa [dstOk] using h1) hrx
  have hgo := hk ad.isNone (fun e => hn (by cases ad <;> simp at e ⊢))
  have hdone := go_sound 1000000 .done (.blk id :: st) K _ (fun c e => by cases e) hst hgo
  have hput2 := Rel.put (dst := some tb) (v := .bool ad.isNone) hput (by show decide (tb < N) = true; simpa using h2) (.bool _)
  have e1 : (a.put (some ta) (a.eval x)).eval (.tmp ta) = .slice ad n c := by
    have hsz : ta < a.tmps.size := by rw [hr.size]; exact h1
    rw [← hcv]
    simp [Act.put, Act.eval, Array.getD_eq_getD_getElem?, hsz]
  rw [show List.range (#[({ dst := some ta, op := .move x, type := ty1, pos := p1, after := a1, guard := none } : Oper), { dst := some tb, op := .binOp .eql t (.tmp ta) (.const (.slice none 0 0)) u, type := ty2, pos := p2, after := a2, guard := none }] : Array Oper).size = [0, 1] from rfl]
  have r1 : (execOp a.eval { dst := some ta, op := .move x, type := ty1, pos := p1, after := a1, guard := none }).run C.P E.w = .ok (.value (a.eval x)) E.w := rfl
  have r2 : (execOp (a.put (some ta) (a.eval x)).eval { dst := some tb, op := .binOp .eql t (.tmp ta) (.const (.slice none 0 0)) u, type := ty2, pos := p2, after := a2, guard := none }).run C.P E.w = .ok (.value (.bool ad.isNone)) E.w := by
    have r3 := nil_run (P := C.P) ht (.tmp ta) (.const (.slice none 0 0)) ad n c E.w
    have e2 : (a.put (some ta) (a.eval x)).eval (.const (.slice none 0 0)) = .slice none 0 0 := rfl
    simp only [execOp, e1, e2]
    rw [Sem.run_bind] at r3
    simp only [Sem.run_bind, r3, Result.andThen_ok, Sem.run_pure]
  rw [wpOps_cons]
  unfold wpOp
  simp only [Array.getElem?_eq_getElem, List.size_toArray, List.length_cons, List.length_nil, Nat.zero_add, Nat.reduceAdd, Nat.zero_lt_succ, List.getElem_toArray, List.getElem_cons_zero]
  rw [if_pos (by rfl)]
  left
  unfold Oper.wp
  rw [r1]
  simp only [Oper.upon]
  rw [wpOps_cons]
  unfold wpOp
  simp
  rw [if_pos (by rfl)]
  left
  unfold Oper.wp
  rw [r2]
  simp only [Oper.upon, wpOps]
  exact ⟨E, .normal, _, rfl, .normal, hdone, hput2, Grow.refl _ _, rfl, rfl, fun _ _ h => h⟩
end
attribute [simp] wrap_i64
@[simp] theorem nn1 (k : Nat) : (0 : Int) ≤ (k : Int) + 1 := by omega
@[simp] theorem lo64 (k : Nat) : (-9223372036854775808 : Int) ≤ (k : Int) := by omega
@[simp] theorem lo64' (k : Nat) : (-9223372036854775808 : Int) ≤ (k : Int) + 1 := by omega
theorem wrN (k : Nat) (h : k ≤ 9223372036854775807) : IntKind.i64.wrap (k : Int) = k := wrap_i64 (by omega) (by omega)
/-! ### Ends -/
section
variable {C : Ctx} {rs : List ResultVar} {L : Nat} {s : ASt} {R : Nat → AOut → Store → Prop} {v v' : V} {vs : List V}
/-- Handed back, part of the store kept as it is, the rest given up. -/
theorem Ended.keep (σd σk : Store) (h : resAll C.P s rs = some [v]) (hk : ∀ x, x ∈ σk → x ∈ s.σ) (hd : ∀ x, x ∈ σd → x ∈ s.σ)
    (hn : (Store.keys σk).Nodup) (hdis : ∀ id, id ∈ Store.keys σk → id ∉ Store.keys σd) (hz : Frz σd v v') (hR : R L (.ret v') σk) : Ended C rs L R s := ⟨[v], v', σd, σk, h, hk, hd, hn, hdis, hz, hR⟩
theorem Ended.keeps (σd σk : Store) (h : resAll C.P s rs = some vs) (hl : vs.length ≠ 1) (hk : ∀ x, x ∈ σk → x ∈ s.σ) (hd : ∀ x, x ∈ σd → x ∈ s.σ)
    (hn : (Store.keys σk).Nodup) (hdis : ∀ id, id ∈ Store.keys σk → id ∉ Store.keys σd) (hz : Frz σd (.tup vs) v') (hR : R L (.ret v') σk) : Ended C rs L R s := by
  refine ⟨vs, v', σd, σk, h, hk, hd, hn, hdis, ?_, hR⟩
  match vs, hl with
  | [], _ => exact hz
  | _ :: _ :: _, _ => exact hz
end

/-! ### Of values alone, the result known in part -/
def APureX (C : Ctx) (f : FuncId) (args : List V) (p : V → Prop) : Prop := AFn C f args [] fun _ o σ' => ∃ v, p v ∧ o = .ret v ∧ σ' = []
section
variable {C : Ctx} {rs : List ResultVar} {L : Nat} {s : ASt} {v v' : V} {p : V → Prop}
theorem Ended.pureX (h : resAll C.P s rs = some [v]) (hz : Frz s.σ v v') (hp : p v') : Ended C rs L (fun _ o σ' => ∃ v, p v ∧ o = .ret v ∧ σ' = []) s :=
  ⟨_, v', s.σ, [], h, by simp, fun _ h => h, by simp [Store.keys], by simp [Store.keys], hz, v', hp, rfl, rfl⟩
theorem CallF.pureX {K : AExit → ASt → Prop} {st : List Fr} {n : Nat} {ops : Array Oper} {r : List Oper} {τ : List (Nat × V)} {σ : Store} {N lv nx : Nat} {f : FuncId} {args : List V} {t : Nat} (h : APureX C f args p) (ht : t < N) (hq : quiet st = false)
    (hk : ∀ v, p v → go C n (.ops ops r) st K ⟨(t, v) :: τ, σ, N, lv, nx⟩) : CallF C n f args (some t) ops r st K ⟨τ, σ, N, lv, nx⟩ := by
  refine CallF.gen h (by simp) (by simp [Store.keys]) ht hq ?_ ?_
  · rintro L' v σ' _ _ ⟨u, hp, e, rfl⟩
    cases e
    rw [Store.less_nil]; exact hk _ hp
  · rintro L' v σ' _ _ ⟨u, hp, e, rfl⟩
    cases e
end

/-! ### Given up: lists -/
theorem frzL_append {σ : Store} {a a' b b' : List V} (h : FrzL σ a a') (k : FrzL σ b b') : FrzL σ (a ++ b) (a' ++ b') := by
  induction a generalizing a' with
  | nil => cases h; exact k
  | cons x a ih => cases h with | cons h t => exact .cons h (ih t)
end Go.Awp

/- AWP, text 24: calls before which part of the store is given up. -/
namespace Go.Awp
open Go

section
variable {C : Ctx}

theorem frzL_repr {E : Amb} {σ σd : Store} (hs : StoreRel E σ) (hd : ∀ x, x ∈ σd → x ∈ σ) {vs vs' : List V} (h : FrzL σd vs vs') {cvs : List Value} (hr : RepL E vs cvs) : RepL (E.sealed σd) vs' cvs :=
  (frzL_ok (fun id b hm => hs.blk id b (hd _ hm)) h).rep cvs hr

/-- A call by contract, on part of the store, behind which another part is given up. -/
theorem acall_frz {f : FuncId} {args args' : List V} {s : ASt} {K X : V → Store → Prop} {σin : Store} {R : Nat → AOut → Store → Prop} (σd : Store) (h : AFn C f args' σin R) (hz : FrzL σd args args') (hd : ∀ x, x ∈ σd → x ∈ s.σ)
    (hs : ∀ x, x ∈ σin → x ∈ s.σ.less σd) (hn : σin.keys.Nodup)
    (hk : ∀ L o σ', s.lv < L → (∀ id, id ∈ s.σ.keys → id.1 < L) → R L o σ' → match o with | .ret v => K v (σ' ++ (s.σ.less σd).less σin) | .pan v => X v (σ' ++ (s.σ.less σd).less σin)) : ACall C f args s K X := by
  refine ⟨h.1, fun E cargs hst hg ha => ?_⟩
  have hk1 : ∀ x, x ∈ s.σ.less σd → x ∈ s.σ := fun x hx => (Store.mem_less.1 hx).1
  have hn1 : (s.σ.less σd).keys.Nodup := Store.less_nodup hst.nodup
  have hdis : ∀ id, id ∈ (s.σ.less σd).keys → id ∉ σd.keys := fun id hi => by
    obtain ⟨x, hx, rfl⟩ := List.mem_map.1 hi
    exact (Store.mem_less.1 hx).2
  obtain ⟨q1, q2⟩ := seal_store hst hk1 hd hn1 hdis
  obtain ⟨L, hlv, hL⟩ := fresh_level hst.fin s.lv
  have hkeys : ∀ id, id ∈ s.σ.keys → id.1 < L := fun id hi => by
    obtain ⟨k, _, hk⟩ := hst.mem hi
    exact Nat.lt_of_not_le fun hle => hk.born (hL id hle)
  have ha' := frzL_repr hst hd hz ha
  refine (h.2 (E.sealed σd) cargs L (q1.part hs hn) (hg.mono seal_le) ha' hL).mono ?_
  rintro e w' ⟨E', o, σ', hw, hR, ho, hs', hg', hb⟩
  obtain ⟨f1, f2⟩ := frame q1 hs (fun x hx => (Store.mem_less.1 hx).1) (fun id hi => by
    obtain ⟨x, hx, rfl⟩ := List.mem_map.1 hi
    exact (Store.mem_less.1 hx).2) (Store.less_nodup q1.nodup) hs' hg'
  have hk' := hk L o σ' hlv hkeys hR
  refine ⟨E', hw, fun id hi hu => hb id (by omega) hu, ?_⟩
  cases ho with
  | ret hv => exact .inl ⟨_, _, _, rfl, hv, hk', f1, q2.trans f2⟩
  | pan hv => exact .inr ⟨_, _, _, rfl, hv, hk', f1, q2.trans f2⟩

variable {K : AExit → ASt → Prop} {st : List Fr} {n : Nat} {ops : Array Oper} {r : List Oper} {τ : List (Nat × V)} {σ : Store} {N lv nx : Nat}
theorem CallF.frz {f : FuncId} {args args' : List V} {t : Nat} {σin : Store} {R : Nat → AOut → Store → Prop} (σd : Store) (h : AFn C f args' σin R) (hz : FrzL σd args args') (hd : ∀ x, x ∈ σd → x ∈ σ)
    (hs : ∀ x, x ∈ σin → x ∈ σ.less σd) (hn : σin.keys.Nodup) (ht : t < N) (hq : quiet st = false)
    (hk : ∀ L v σ', lv < L → (∀ id, id ∈ σ.keys → id.1 < L) → R L (.ret v) σ' → go C n (.ops ops r) st K ⟨(t, v) :: τ, σ' ++ (σ.less σd).less σin, N, lv, nx⟩)
    (hp : ∀ L v σ', lv < L → (∀ id, id ∈ σ.keys → id.1 < L) → R L (.pan v) σ' → K (.panic v) ⟨τ, σ' ++ (σ.less σd).less σin, N, lv, nx⟩) : CallF C n f args (some t) ops r st K ⟨τ, σ, N, lv, nx⟩ := by
  unfold CallF
  rw [hq]
  refine acall_frz (s := ⟨τ, σ, N, lv, nx⟩) σd h hz hd hs hn fun L o σ' h1 h2 h3 => ?_
  cases o with
  | ret v => exact ⟨by simpa [dstOk] using ht, hk L v σ' h1 h2 h3⟩
  | pan v => exact hp L v σ' h1 h2 h3

/-- The same, of values alone. -/
theorem CallF.frzP {f : FuncId} {args args' : List V} {t : Nat} {v : V} (σd : Store) (h : APure C f args' v) (hz : FrzL σd args args') (hd : ∀ x, x ∈ σd → x ∈ σ) (ht : t < N) (hq : quiet st = false)
    (hk : go C n (.ops ops r) st K ⟨(t, v) :: τ, σ.less σd, N, lv, nx⟩) : CallF C n f args (some t) ops r st K ⟨τ, σ, N, lv, nx⟩ := by
  refine CallF.frz σd h hz hd (by simp) (by simp [Store.keys]) ht hq ?_ ?_
  · rintro L v' σ' _ _ ⟨e, rfl⟩
    cases e
    rw [Store.less_nil]; exact hk
  · rintro L v' σ' _ _ ⟨e, rfl⟩
    cases e
/-- **The entry**, where the last state may be described anew. -/
theorem afn_enterT {f : FuncId} {fn : Func} {c : Code} {n : Nat} {rs : List ResultVar} {args : List V} {σ : Store} {R : Nat → AOut → Store → Prop} (hf : C.P.funcs[f]? = some fn) (hb : fn.body = some c) (hnt : fn.ntmps = n) (hrs : fn.results.toList = rs)
    (hname : (fn.name == "runtime.NumGoroutine") = false) (hn : args.length ≤ n) (hcode : codeOk C.ex c = true)
    (h : ∀ L K, (∀ id, id ∈ σ.keys → id.1 < L) → (∀ s s', Turn C s s' → Ended C rs L R s' → K .ret s) → (∀ s s', Turn C s s' → Ended C rs L R s' → K .normal s) →
      (∀ s v v' σd σk, (∀ x, x ∈ σk → x ∈ s.σ) → (∀ x, x ∈ σd → x ∈ s.σ) → (Store.keys σk).Nodup → (∀ id, id ∈ Store.keys σk → id ∉ Store.keys σd) → Frz σd v v' → R L (.pan v') σk → K (.panic v) s) →
      go C 1000000 (.code c) [] K ⟨argsT 0 args, σ, n, L, 0⟩) : AFn C f args σ R := by
  subst hnt; subst hrs
  refine afn_of hf hb hname hn fun L hL => ?_
  have hgo := h L (fun e s => ∃ s', Turn C s s' ∧ Ends C fn L R e s') hL ?_ ?_ ?_
  · exact aw_post (go_sound 1000000 (.code c) [] _ _ (fun c' e => by cases e; exact hcode) rfl hgo) fun e s h => h
  · rintro s s' ht ⟨vs, v', σd, σk, h1, h2, h3, h4, h5, h6, h7⟩
    exact ⟨s', ht, _, v', σd, σk, by unfold resV; rw [h1]; rfl, h2, h3, h4, h5, h6, h7⟩
  · rintro s s' ht ⟨vs, v', σd, σk, h1, h2, h3, h4, h5, h6, h7⟩
    exact ⟨s', ht, _, v', σd, σk, by unfold resV; rw [h1]; rfl, h2, h3, h4, h5, h6, h7⟩
  · intro s v v' σd σk h2 h3 h4 h5 h6 h7
    exact ⟨s, Turn.refl C s, v', σd, σk, h2, h3, h4, h5, h6, h7⟩

/-- A slice that is made and handed back: all of it the caller's own. -/
def AMade (C : Ctx) (f : FuncId) (args : List V) (t z : Nat) (es : List V) : Prop :=
  AFn C f args [] fun L o σ' => ∃ id ver, id.1 = L ∧ o = .ret (.vec id ver) ∧ σ' = [(id, .vec t z es ver true)]

theorem Ended.made {rs : List ResultVar} {L : Nat} {s : ASt} {id : Id} {ver t z : Nat} {es : List V} (h : resAll C.P s rs = some [.vec id ver]) (hi : id.1 = L) (hm : (id, .vec t z es ver true) ∈ s.σ) :
    Ended C rs L (fun L o σ' => ∃ id ver, id.1 = L ∧ o = .ret (.vec id ver) ∧ σ' = [(id, .vec t z es ver true)]) s :=
  .keep [] [(id, .vec t z es ver true)] h (by simpa using hm) (by simp) (by simp [Store.keys]) (by simp [Store.keys]) (.refl _) ⟨id, ver, hi, rfl, rfl⟩

theorem CallF.made {f : FuncId} {args : List V} {t ty z : Nat} {es : List V} (h : AMade C f args ty z es) (ht : t < N) (hq : quiet st = false)
    (hk : ∀ L k ver, lv < L → (∀ id, id ∈ σ.keys → id.1 < L) → go C n (.ops ops r) st K ⟨(t, .vec (L, k) ver) :: τ, ((L, k), .vec ty z es ver true) :: σ, N, lv, nx⟩) : CallF C n f args (some t) ops r st K ⟨τ, σ, N, lv, nx⟩ := by
  refine CallF.gen h (by simp) (by simp [Store.keys]) ht hq ?_ ?_
  · rintro L v σ' h1 h2 ⟨⟨i, k⟩, ver, rfl, e, rfl⟩
    cases e
    rw [Store.less_nil]
    exact hk i k ver h1 h2
  · rintro L v σ' h1 h2 ⟨id, ver, _, e, _⟩
    cases e
end

/-! ### Contracts are of the program and its tables alone -/
theorem AFn.ctx {C C' : Ctx} (hP : C.P = C'.P) (hG : C.G = C'.G) {f : FuncId} {args : List V} {σ : Store} {R : Nat → AOut → Store → Prop} (h : AFn C f args σ R) : AFn C' f args σ R := by
  obtain ⟨P, G, ex, m, own⟩ := C
  obtain ⟨P', G', ex', m', own'⟩ := C'
  simp only at hP hG
  subst hP; subst hG
  exact h

/-! ### Literals of several elements -/
@[simp] theorem litR2 : ([0, 1] = List.range 2) = True := by decide
@[simp] theorem litR3 : ([0, 1, 2] = List.range 3) = True := by decide
@[simp] theorem litR4 : ([0, 1, 2, 3] = List.range 4) = True := by decide
@[simp] theorem litR5 : ([0, 1, 2, 3, 4] = List.range 5) = True := by decide
@[simp] theorem litR6 : ([0, 1, 2, 3, 4, 5] = List.range 6) = True := by decide
@[simp] theorem litR7 : ([0, 1, 2, 3, 4, 5, 6] = List.range 7) = True := by decide
@[simp] theorem litR8 : ([0, 1, 2, 3, 4, 5, 6, 7] = List.range 8) = True := by decide
@[simp] theorem litR9 : ([0, 1, 2, 3, 4, 5, 6, 7, 8] = List.range 9) = True := by decide
@[simp] theorem litR10 : ([0, 1, 2, 3, 4, 5, 6, 7, 8, 9] = List.range 10) = True := by decide
@[simp] theorem litR11 : ([0, 1, 2, 3, 4, 5, 6, 7, 8, 9, 10] = List.range 11) = True := by decide
@[simp] theorem litR12 : ([0, 1, 2, 3, 4, 5, 6, 7, 8, 9, 10, 11] = List.range 12) = True := by decide
@[simp] theorem litR13 : ([0, 1, 2, 3, 4, 5, 6, 7, 8, 9, 10, 11, 12] = List.range 13) = True := by decide
@[simp] theorem litR14 : ([0, 1, 2, 3, 4, 5, 6, 7, 8, 9, 10, 11, 12, 13] = List.range 14) = True := by decide
@[simp] theorem litR15 : ([0, 1, 2, 3, 4, 5, 6, 7, 8, 9, 10, 11, 12, 13, 14] = List.range 15) = True := by decide
@[simp] theorem litR16 : ([0, 1, 2, 3, 4, 5, 6, 7, 8, 9, 10, 11, 12, 13, 14, 15] = List.range 16) = True := by decide
end Go.Awp

/- AWP, text 25: arguments that came in, as trees. -/
namespace Go.Awp
open Go

/-- All that was there stays as it is. -/
def Amb.start (w : World) : Amb := ⟨fun b _ => b < w.heap.size, fun _ => .unborn, w⟩

/-- An element out of its cells. -/
def vOf (P : Program) (t : TypeId) (cs : List V) : V :=
  match P.underlying t with
  | some (.struct _) => .agg cs
  | some (.array _ _) => .agg cs
  | _ => cs.headD .any

def shF (P : Program) (sh : TypeId → List V → Prop) : List Field → List V → Prop
  | [], xs => xs = []
  | g :: gs, xs => ∃ ys zs, xs = ys ++ zs ∧ ys.length = P.cellsOf g.type ∧ sh g.type ys ∧ shF P sh gs zs

/-- The cells of a datum of a type. -/
def Sh (P : Program) : Nat → TypeId → List V → Prop
  | 0, _, _ => False
  | d + 1, t, xs => match P.underlying t with
    | some .bool => ∃ b, xs = [.bool b]
    | some (.int k) => ∃ n, xs = [.int k n] ∧ (Lit.int k n).wf = true
    | some (.float k) => ∃ n, xs = [.float k n] ∧ (Lit.float k n).wf = true
    | some .string => ∃ s, xs = [.str s] ∧ s.size ≤ maxLen
    | some (.slice e) => ∃ css : List (List V), xs = [.slice (css.map (vOf P e))] ∧ css.length ≤ maxLen ∧ ∀ cs ∈ css, Sh P d e cs
    | some (.struct fs) => shF P (Sh P d) fs.toList xs
    | _ => False

def tiled (P : Program) (ok : TypeId → Bool) : Nat → List Field → Nat → Bool
  | o, [], n => o == n
  | o, g :: gs, n => g.offset == o && ok g.type && tiled P ok (o + P.cellsOf g.type) gs n

/-- Types of such data. -/
def okT (P : Program) : Nat → TypeId → Bool
  | 0, _ => false
  | d + 1, t => match P.underlying t with
    | some .bool | some (.int _) | some (.float _) | some .string => P.cellsOf t == 1
    | some (.slice e) => P.cellsOf t == 1 && okT P d e && decide (0 < P.cellsOf e)
    | some (.struct fs) => tiled P (okT P d) 0 fs.toList (P.cellsOf t)
    | _ => false

section
variable {P : Program} {H : Type} {enc : TypeId × Value → H} {w : World} {base : Nat} {spare : Nat → Bool} {held : Bool}

theorem mapM_all {α β : Type} {f : α → Option β} : ∀ {l : List α} {r : List β}, l.mapM f = some r → ∀ x ∈ l, ∃ y, f x = some y := by
  intro l
  induction l with
  | nil => intro r _ x hx; cases hx
  | cons a l ih =>
    intro r h x hx
    rw [List.mapM_cons] at h
    simp only [Option.bind_eq_bind, Option.bind_eq_some_iff] at h
    obtain ⟨b, hb, bs, hbs, _⟩ := h
    rcases List.mem_cons.1 hx with rfl | hx
    · exact ⟨b, hb⟩
    · exact ih hbs x hx

theorem cells_some {a : Addr} {n : Nat} {cs : List Value} (h : w.cells? base a n = some cs) : cs.length = n ∧ ∀ j u, cs[j]? = some u → w.cell? (a.add j) = some u := by
  unfold World.cells? at h
  split at h
  · refine ⟨by simpa using mapM_some_length h, fun j u hu => ?_⟩
    have hj : j < n := by
      have := (List.getElem?_eq_some_iff.1 hu).1
      have h2 : cs.length = n := by simpa using mapM_some_length h
      omega
    have := mapM_some_get h j j (by simp [hj])
    rw [this]; exact hu
  · cases h

theorem cell_lt {a : Addr} {u : Value} (h : w.cell? a = some u) : a.block < w.heap.size ∧ a.spot = none := by
  unfold World.cell? at h
  split at h
  · rename_i c _ _ hc
    refine ⟨(Array.getElem?_eq_some_iff.1 hc).1, ?_⟩
    split at h
    · cases h
    · rename_i hs; cases hq : a.spot with | none => rfl | some _ => rw [hq] at hs; simp at hs
  · cases h

theorem vOf_cells {d : Nat} {t : TypeId} {cs : List V} (h : Sh P d t cs) : (vOf P t cs).cells = cs := by
  cases d with
  | zero => exact h.elim
  | succ d =>
    unfold Sh at h
    unfold vOf
    split at h
    · rename_i hu; obtain ⟨b, rfl⟩ := h; rw [hu]; rfl
    · rename_i hu; obtain ⟨n, rfl, _⟩ := h; rw [hu]; rfl
    · rename_i hu; obtain ⟨n, rfl, _⟩ := h; rw [hu]; rfl
    · rename_i hu; obtain ⟨s, rfl, _⟩ := h; rw [hu]; rfl
    · rename_i hu; obtain ⟨css, rfl, _⟩ := h; rw [hu]; rfl
    · rename_i hu; rw [hu]; rfl
    · exact h.elim

/-- What reads as data is a tree. -/
theorem trod_rep : ∀ (d fuel : Nat) (t : TypeId) (cs : List Value) (x : DataW H × List MemPlace), okT P d t = true → DataW.trod enc P w base spare held fuel t cs = some x →
    ∃ xs, RepL (Amb.start w) xs cs ∧ (∀ c ∈ xs, c.scalar = true) ∧ Sh P d t xs ∧ xs.length = P.cellsOf t := by
  intro d
  induction d with
  | zero => intro fuel t cs x hok; simp [okT] at hok
  | succ d ih =>
    intro fuel t cs x hok hx
    cases hu : P.underlying t with
    | none => simp [okT, hu] at hok
    | some q =>
      unfold okT at hok
      rw [hu] at hok
      cases q with
      | slice e =>
        simp only [Bool.and_eq_true, beq_iff_eq, decide_eq_true_eq] at hok
        obtain ⟨⟨hone, hoke⟩, hpos⟩ := hok
        rcases DataW.trod_slice hu hx with ⟨rfl, _⟩ | ⟨a, len, cap, elems, rest, n, _, rfl, _, hb, hl, hm, hlen, hel, _⟩
        · refine ⟨[.slice []], .cons (.slice0 _ _) .nil, by simp [V.scalar], ?_, by simp [hone]⟩
          unfold Sh; rw [hu]
          exact ⟨[], rfl, Nat.zero_le _, by simp⟩
        · have key : ∀ m, m ≤ len → ∃ (css : List (List V)) (cvs : List Value), css.length = m ∧ RepL (Amb.start w) css.flatten cvs ∧ cvs.length = m * P.cellsOf e ∧ (∀ j u, cvs[j]? = some u → w.cell? (a.add j) = some u) ∧
              ∀ c ∈ css, c.length = P.cellsOf e ∧ (∀ y ∈ c, y.scalar = true) ∧ Sh P d e c := by
            intro m
            induction m with
            | zero => intro _; exact ⟨[], [], rfl, .nil, by simp, by simp, by simp⟩
            | succ m ihm =>
              intro hle
              obtain ⟨css, cvs, h1, h2, h3, h4, h5⟩ := ihm (by omega)
              have he := hel m (by omega)
              rw [List.getElem?_eq_getElem (by omega)] at he
              obtain ⟨cells, hc1, hc2⟩ := Option.bind_eq_some_iff.1 he
              obtain ⟨ys, r1, r2, r3, r4⟩ := ih _ e cells _ hoke hc2
              obtain ⟨q1, q2⟩ := cells_some hc1
              refine ⟨css ++ [ys], cvs ++ cells, by simp [h1], by simpa using h2.append r1, by simp [h3, q1, Nat.succ_mul], fun j u hj => ?_, fun c hc => ?_⟩
              · rw [List.getElem?_append] at hj
                split at hj
                · exact h4 j u hj
                · rename_i hge
                  have := q2 _ u hj
                  rw [Addr.add_add] at this
                  rwa [show m * P.cellsOf e + (j - cvs.length) = j by omega] at this
              · rcases List.mem_append.1 hc with hc | hc
                · exact h5 c hc
                · rw [List.mem_singleton.1 hc]; exact ⟨r4, r2, r3⟩
          obtain ⟨css, cvs, h1, h2, h3, h4, h5⟩ := key len (Nat.le_refl _)
          have hcells : ∀ c ∈ css, (vOf P e c).cells = c := fun c hc => vOf_cells (h5 c hc).2.2
          have hflat : (css.map (vOf P e)).flatMap V.cells = css.flatten := by
            clear h1 h2 key
            induction css with
            | nil => rfl
            | cons c css ihc =>
              simp only [List.map_cons, List.flatMap_cons, List.flatten_cons]
              rw [hcells c List.mem_cons_self, ihc (fun c hc => h5 c (List.mem_cons_of_mem _ hc)) (fun c hc => hcells c (List.mem_cons_of_mem _ hc))]
          have hsh : Sh P (d + 1) t [.slice (css.map (vOf P e))] := by
            unfold Sh; rw [hu]
            exact ⟨css, rfl, by omega, fun c hc => (h5 c hc).2.2⟩
          refine ⟨_, ?_, by simp [V.scalar], hsh, by simp [hone]⟩
          by_cases h0 : len = 0
          · subst h0
            have : css = [] := List.eq_nil_of_length_eq_zero h1
            subst this
            exact .cons (.slice0 _ _) .nil
          · have hcv : 0 < cvs.length := by rw [h3]; exact Nat.mul_pos (by omega) hpos
            obtain ⟨b, o, sp⟩ := a
            have hfirst := h4 0 _ (List.getElem?_eq_getElem hcv)
            have hsp : sp = none := (cell_lt hfirst).2
            subst hsp
            have hrep : Rep (Amb.start w) (.slice (css.map (vOf P e))) (.slice (some ⟨b, o, none⟩) (css.map (vOf P e)).length cap) := by
              refine .slice (cvs := cvs) (s := P.cellsOf e) (by rw [hflat]; exact h2) (fun j u hj => ?_) (fun v hv => ?_) (by simp; omega)
              · have := h4 j u hj
                have e1 : (⟨b, o, none⟩ : Addr).add j = ⟨b, o + j, none⟩ := Addr.add_mid b o j
                rw [e1] at this
                exact ⟨this, (cell_lt this).1⟩
              · obtain ⟨c, hc, rfl⟩ := List.mem_map.1 hv
                refine ⟨by rw [hcells c hc]; exact (h5 c hc).1, fun y hy => ?_⟩
                rw [hcells c hc] at hy
                exact (h5 c hc).2.1 y hy
            rw [List.length_map, h1] at hrep
            exact .cons hrep .nil
      | struct fs =>
        obtain ⟨rs, n, rfl, _, hlen, hrl, hfs⟩ := DataW.trod_struct hu hx
        have key : ∀ (gs : List Field) (o : Nat), tiled P (okT P d) o gs cs.length = true → (∀ g ∈ gs, ∃ r, DataW.trod enc P w base spare held n g.type ((cs.drop g.offset).take (P.cellsOf g.type)) = some r) →
            ∃ xs, RepL (Amb.start w) xs (cs.drop o) ∧ (∀ c ∈ xs, c.scalar = true) ∧ shF P (Sh P d) gs xs ∧ xs.length + o = cs.length := by
          intro gs
          induction gs with
          | nil =>
            intro o ht _
            simp only [tiled, beq_iff_eq] at ht
            subst ht
            exact ⟨[], by simpa using RepL.nil, by simp, rfl, by simp⟩
          | cons g gs ihg =>
            intro o ht hr
            simp only [tiled, Bool.and_eq_true, beq_iff_eq] at ht
            obtain ⟨⟨rfl, hg⟩, ht⟩ := ht
            obtain ⟨r, hr1⟩ := hr g List.mem_cons_self
            obtain ⟨ys, r1, r2, r3, r4⟩ := ih n g.type _ r hg hr1
            obtain ⟨zs, q1, q2, q3, q4⟩ := ihg _ ht fun g hg => hr g (List.mem_cons_of_mem _ hg)
            refine ⟨ys ++ zs, ?_, fun c hc => (List.mem_append.1 hc).elim (r2 c) (q2 c), ⟨ys, zs, rfl, r4, r3, q3⟩, by rw [List.length_append]; omega⟩
            have := r1.append q1
            rwa [← List.drop_drop, List.take_append_drop] at this
        obtain ⟨xs, r1, r2, r3, r4⟩ := key fs.toList 0 (by rw [hlen]; exact hok) fun g hg => by
          obtain ⟨i, hi, rfl⟩ := List.getElem_of_mem hg
          have h1 := hfs i fs.toList[i] (by simp)
          have hi2 : i < rs.length := by rw [hrl]; simpa using hi
          rw [List.getElem?_eq_getElem hi2] at h1
          exact ⟨_, h1⟩
        refine ⟨xs, by simpa using r1, r2, ?_, by omega⟩
        unfold Sh; rw [hu]; exact r3
      | bool =>
        obtain ⟨b, rfl, _⟩ := DataW.trod_bool hu hx
        simp at hok
        exact ⟨[.bool b], .cons (.bool b) .nil, by simp [V.scalar], by unfold Sh; rw [hu]; exact ⟨b, rfl⟩, by simp [hok]⟩
      | int k =>
        obtain ⟨b, rfl, _, hw⟩ := DataW.trod_int hu hx
        simp at hok
        exact ⟨[.int k b], .cons (.int k b) .nil, by simp [V.scalar], by unfold Sh; rw [hu]; exact ⟨b, rfl, hw⟩, by simp [hok]⟩
      | string =>
        obtain ⟨b, rfl, _, hw⟩ := DataW.trod_string hu hx
        simp at hok
        exact ⟨[.str b], .cons (.str b) .nil, by simp [V.scalar], by unfold Sh; rw [hu]; exact ⟨b, rfl, hw⟩, by simp [hok]⟩
      | float k =>
        simp at hok
        have : ∃ n, cs = [.float k n] ∧ (Lit.float k n).wf = true := by
          cases fuel with
          | zero => simp [DataW.trod] at hx
          | succ n =>
            unfold DataW.trod at hx
            rw [hu] at hx
            split at hx <;> simp_all
        obtain ⟨n, rfl, hw⟩ := this
        exact ⟨[.float k n], .cons (.float k n) .nil, by simp [V.scalar], by unfold Sh; rw [hu]; exact ⟨n, rfl, hw⟩, by simp [hok]⟩
      | _ => simp at hok

theorem choose_map {α β : Type} {f : β → α} {q : β → Prop} : ∀ {css : List α}, (∀ c ∈ css, ∃ b, c = f b ∧ q b) → ∃ l : List β, css = l.map f ∧ ∀ b ∈ l, q b := by
  intro css
  induction css with
  | nil => intro _; exact ⟨[], rfl, by simp⟩
  | cons c css ih =>
    intro h
    obtain ⟨b, rfl, hb⟩ := h c List.mem_cons_self
    obtain ⟨l, rfl, hl⟩ := ih fun c hc => h c (List.mem_cons_of_mem _ hc)
    refine ⟨b :: l, rfl, fun x hx => ?_⟩
    rcases List.mem_cons.1 hx with rfl | hx
    · exact hb
    · exact hl x hx

/-- A slice argument. -/
theorem slice_arg {t e : TypeId} {d : Nat} (hu : P.underlying t = some (.slice e)) (hok : okT P (d + 1) t = true) {v : Value} {q : DataW H} {ps : List MemPlace} (ht : DataW.Trod enc P w base spare held t v q ps) (hv : ∃ a len cap, v = .slice a len cap) :
    ∃ css : List (List V), Rep (Amb.start w) (.slice (css.map (vOf P e))) v ∧ css.length ≤ maxLen ∧ ∀ cs ∈ css, Sh P d e cs := by
  obtain ⟨a, len, cap, rfl⟩ := hv
  obtain ⟨fuel, hf⟩ := ht
  obtain ⟨xs, r1, _, r3, _⟩ := trod_rep (d + 1) fuel t _ _ hok hf
  unfold Sh at r3
  rw [hu] at r3
  obtain ⟨css, rfl, h2, h3⟩ := r3
  refine ⟨css, ?_, h2, h3⟩
  cases r1 with | cons a b => exact a
/-- A struct argument. -/
theorem struct_arg {t : TypeId} {d : Nat} {fs : Array Field} (hu : P.underlying t = some (.struct fs)) (hok : okT P (d + 1) t = true) {v : Value} {q : DataW H} {ps : List MemPlace} (ht : DataW.Trod enc P w base spare held t v q ps) (hv : ∃ cs, v = .agg cs) :
    ∃ xs : List V, Rep (Amb.start w) (.agg xs) v ∧ shF P (Sh P d) fs.toList xs := by
  obtain ⟨cs, rfl⟩ := hv
  obtain ⟨fuel, hf⟩ := ht
  obtain ⟨xs, r1, r2, r3, _⟩ := trod_rep (d + 1) fuel t _ _ hok hf
  unfold Sh at r3
  rw [hu] at r3
  exact ⟨xs, .agg r1 r2, r3⟩

theorem start_rel (w : World) : StoreRel (Amb.start w) [] :=
  ⟨by simp, by simp [Store.keys], by simp [Store.keys], fun _ _ h => h, ⟨0, fun _ _ => rfl⟩⟩

/-- **A statement's call**: it returns true, and what was there is there still. -/
theorem law_calls {C : Ctx} {f : FuncId} {vs : List V} (h : APure C f vs (.bool true)) (hg : C.G = []) {w : World} {cargs : List Value} (hr : RepL (Amb.start w) vs cargs) :
    Calls C.P f cargs.toArray w fun e w' => e = .returned (.bool true) ∧ Go.RowKit.Below w.heap.size w w' := by
  refine (h.2 (Amb.start w) cargs 0 (start_rel w) (fun g v hv => by rw [hg] at hv; cases hv) hr (fun _ _ => rfl)).mono ?_
  rintro e w' ⟨E', o, σ', rfl, ⟨rfl, rfl⟩, ho, hs, hgr, _⟩
  cases ho with | ret hv =>
  cases hv
  exact ⟨rfl, hgr.os, hgr.tape, hgr.output, hgr.size, fun k hk => hgr.kept k hk fun ⟨id, hi, _⟩ => by simp [Store.keys] at hi⟩
end
end Go.Awp

/- The round's context, and the facts about its types. -/
namespace Go.Awp.R1
open Go Go.Awp Go.Proofs
noncomputable def TC : Ctx := ⟨Try.prog, [], [], by kernel_rfl, []⟩
@[simp] theorem TCex : TC.ex = [] := rfl
@[simp] theorem TCown : TC.own = [] := rfl
theorem t0s : sizeT TC.P 0 = some 1 := by kernel_rfl
theorem t0a : aggT TC.P 0 = some false := by kernel_rfl
theorem t0b : bytesT TC.P 0 = some 0 := by kernel_rfl
theorem t0p : placesT TC.P 0 = none := by kernel_rfl
theorem t0k : sortT TC.P 0 = .tuple := by kernel_rfl
attribute [simp] t0s t0a t0b t0p t0k
theorem t1s : sizeT TC.P 1 = some 1 := by kernel_rfl
theorem t1a : aggT TC.P 1 = some false := by kernel_rfl
theorem t1b : bytesT TC.P 1 = some 8 := by kernel_rfl
theorem t1z : zeroC TC.P 1 = some .nilf := by kernel_rfl
theorem t1p : placesT TC.P 1 = none := by kernel_rfl
theorem t1k : sortT TC.P 1 = .func := by kernel_rfl
attribute [simp] t1s t1a t1b t1z t1p t1k
theorem t2s : sizeT TC.P 2 = some 1 := by kernel_rfl
theorem t2a : aggT TC.P 2 = some false := by kernel_rfl
theorem t2b : bytesT TC.P 2 = some 8 := by kernel_rfl
theorem t2z : zeroC TC.P 2 = some (.int .i64 (0)) := by kernel_rfl
theorem t2p : placesT TC.P 2 = none := by kernel_rfl
theorem t2k : sortT TC.P 2 = (.int .i64) := by kernel_rfl
attribute [simp] t2s t2a t2b t2z t2p t2k
theorem t3s : sizeT TC.P 3 = some 1 := by kernel_rfl
theorem t3a : aggT TC.P 3 = some false := by kernel_rfl
theorem t3b : bytesT TC.P 3 = some 8 := by kernel_rfl
theorem t3z : zeroC TC.P 3 = some (.int .i64 (0)) := by kernel_rfl
theorem t3p : placesT TC.P 3 = none := by kernel_rfl
theorem t3k : sortT TC.P 3 = (.int .i64) := by kernel_rfl
attribute [simp] t3s t3a t3b t3z t3p t3k
theorem t4s : sizeT TC.P 4 = some 1 := by kernel_rfl
theorem t4a : aggT TC.P 4 = some false := by kernel_rfl
theorem t4b : bytesT TC.P 4 = some 1 := by kernel_rfl
theorem t4z : zeroC TC.P 4 = some (.bool false) := by kernel_rfl
theorem t4p : placesT TC.P 4 = none := by kernel_rfl
theorem t4k : sortT TC.P 4 = .bool := by kernel_rfl
attribute [simp] t4s t4a t4b t4z t4p t4k
theorem t5s : sizeT TC.P 5 = some 1 := by kernel_rfl
theorem t5a : aggT TC.P 5 = some false := by kernel_rfl
theorem t5b : bytesT TC.P 5 = some 1 := by kernel_rfl
theorem t5z : zeroC TC.P 5 = some (.int .u8 (0)) := by kernel_rfl
theorem t5p : placesT TC.P 5 = none := by kernel_rfl
theorem t5k : sortT TC.P 5 = (.int .u8) := by kernel_rfl
attribute [simp] t5s t5a t5b t5z t5p t5k
theorem t6s : sizeT TC.P 6 = some 1 := by kernel_rfl
theorem t6a : aggT TC.P 6 = some false := by kernel_rfl
theorem t6b : bytesT TC.P 6 = some 1 := by kernel_rfl
theorem t6z : zeroC TC.P 6 = some (.int .u8 (0)) := by kernel_rfl
theorem t6p : placesT TC.P 6 = none := by kernel_rfl
theorem t6k : sortT TC.P 6 = (.int .u8) := by kernel_rfl
attribute [simp] t6s t6a t6b t6z t6p t6k
theorem t7s : sizeT TC.P 7 = some 4 := by kernel_rfl
theorem t7a : aggT TC.P 7 = some true := by kernel_rfl
theorem t7b : bytesT TC.P 7 = some 24 := by kernel_rfl
theorem t7z : zeroC TC.P 7 = some (.agg [(.int .i64 (0)), (.int .i64 (0)), (.bool false), (.int .u8 (0))]) := by kernel_rfl
theorem t7p : placesT TC.P 7 = some [(0, 1), (1, 1), (2, 1), (3, 1)] := by kernel_rfl
theorem t7f0 : fldT TC.P 7 0 = some (0, 2) := by kernel_rfl
theorem t7f1 : fldT TC.P 7 1 = some (1, 3) := by kernel_rfl
theorem t7f2 : fldT TC.P 7 2 = some (2, 4) := by kernel_rfl
theorem t7f3 : fldT TC.P 7 3 = some (3, 6) := by kernel_rfl
theorem t7c : cmpT TC.P 7 = some [(0, 2), (1, 3), (2, 4), (3, 6)] := by kernel_rfl
theorem t7k : sortT TC.P 7 = .struct := by kernel_rfl
attribute [simp] t7s t7a t7b t7z t7p t7f0 t7f1 t7f2 t7f3 t7c t7k
theorem t8s : sizeT TC.P 8 = some 4 := by kernel_rfl
theorem t8a : aggT TC.P 8 = some true := by kernel_rfl
theorem t8b : bytesT TC.P 8 = some 24 := by kernel_rfl
theorem t8z : zeroC TC.P 8 = some (.agg [(.int .i64 (0)), (.int .i64 (0)), (.bool false), (.int .u8 (0))]) := by kernel_rfl
theorem t8p : placesT TC.P 8 = some [(0, 1), (1, 1), (2, 1), (3, 1)] := by kernel_rfl
theorem t8f0 : fldT TC.P 8 0 = some (0, 2) := by kernel_rfl
theorem t8f1 : fldT TC.P 8 1 = some (1, 3) := by kernel_rfl
theorem t8f2 : fldT TC.P 8 2 = some (2, 4) := by kernel_rfl
theorem t8f3 : fldT TC.P 8 3 = some (3, 6) := by kernel_rfl
theorem t8c : cmpT TC.P 8 = some [(0, 2), (1, 3), (2, 4), (3, 6)] := by kernel_rfl
theorem t8k : sortT TC.P 8 = .struct := by kernel_rfl
attribute [simp] t8s t8a t8b t8z t8p t8f0 t8f1 t8f2 t8f3 t8c t8k
theorem t9s : sizeT TC.P 9 = some 1 := by kernel_rfl
theorem t9a : aggT TC.P 9 = some false := by kernel_rfl
theorem t9b : bytesT TC.P 9 = some 16 := by kernel_rfl
theorem t9z : zeroC TC.P 9 = some (.str ⟨#[]⟩) := by kernel_rfl
theorem t9p : placesT TC.P 9 = none := by kernel_rfl
theorem t9k : sortT TC.P 9 = .str := by kernel_rfl
attribute [simp] t9s t9a t9b t9z t9p t9k
theorem t10s : sizeT TC.P 10 = some 1 := by kernel_rfl
theorem t10a : aggT TC.P 10 = some false := by kernel_rfl
theorem t10b : bytesT TC.P 10 = some 16 := by kernel_rfl
theorem t10z : zeroC TC.P 10 = some (.str ⟨#[]⟩) := by kernel_rfl
theorem t10p : placesT TC.P 10 = none := by kernel_rfl
theorem t10k : sortT TC.P 10 = .str := by kernel_rfl
attribute [simp] t10s t10a t10b t10z t10p t10k
theorem t11s : sizeT TC.P 11 = some 1 := by kernel_rfl
theorem t11a : aggT TC.P 11 = some false := by kernel_rfl
theorem t11b : bytesT TC.P 11 = some 16 := by kernel_rfl
theorem t11z : zeroC TC.P 11 = some (.str ⟨#[]⟩) := by kernel_rfl
theorem t11p : placesT TC.P 11 = none := by kernel_rfl
theorem t11k : sortT TC.P 11 = .str := by kernel_rfl
attribute [simp] t11s t11a t11b t11z t11p t11k
theorem t12s : sizeT TC.P 12 = some 1 := by kernel_rfl
theorem t12a : aggT TC.P 12 = some false := by kernel_rfl
theorem t12b : bytesT TC.P 12 = some 8 := by kernel_rfl
theorem t12z : zeroC TC.P 12 = some (.int .u64 (0)) := by kernel_rfl
theorem t12p : placesT TC.P 12 = none := by kernel_rfl
theorem t12k : sortT TC.P 12 = (.int .u64) := by kernel_rfl
attribute [simp] t12s t12a t12b t12z t12p t12k
theorem t13s : sizeT TC.P 13 = some 2 := by kernel_rfl
theorem t13a : aggT TC.P 13 = some true := by kernel_rfl
theorem t13b : bytesT TC.P 13 = some 24 := by kernel_rfl
theorem t13z : zeroC TC.P 13 = some (.agg [(.str ⟨#[]⟩), (.int .u64 (0))]) := by kernel_rfl
theorem t13p : placesT TC.P 13 = some [(0, 1), (1, 1)] := by kernel_rfl
theorem t13f0 : fldT TC.P 13 0 = some (0, 9) := by kernel_rfl
theorem t13f1 : fldT TC.P 13 1 = some (1, 12) := by kernel_rfl
theorem t13k : sortT TC.P 13 = .struct := by kernel_rfl
attribute [simp] t13s t13a t13b t13z t13p t13f0 t13f1 t13k
theorem t14s : sizeT TC.P 14 = some 2 := by kernel_rfl
theorem t14a : aggT TC.P 14 = some true := by kernel_rfl
theorem t14b : bytesT TC.P 14 = some 24 := by kernel_rfl
theorem t14z : zeroC TC.P 14 = some (.agg [(.str ⟨#[]⟩), (.int .u64 (0))]) := by kernel_rfl
theorem t14p : placesT TC.P 14 = some [(0, 1), (1, 1)] := by kernel_rfl
theorem t14f0 : fldT TC.P 14 0 = some (0, 9) := by kernel_rfl
theorem t14f1 : fldT TC.P 14 1 = some (1, 12) := by kernel_rfl
theorem t14k : sortT TC.P 14 = .struct := by kernel_rfl
attribute [simp] t14s t14a t14b t14z t14p t14f0 t14f1 t14k
theorem t15s : sizeT TC.P 15 = some 1 := by kernel_rfl
theorem t15a : aggT TC.P 15 = some false := by kernel_rfl
theorem t15b : bytesT TC.P 15 = some 8 := by kernel_rfl
theorem t15z : zeroC TC.P 15 = some .nilp := by kernel_rfl
theorem t15p : placesT TC.P 15 = none := by kernel_rfl
theorem t15k : sortT TC.P 15 = .ptr := by kernel_rfl
attribute [simp] t15s t15a t15b t15z t15p t15k
theorem t16s : sizeT TC.P 16 = some 1 := by kernel_rfl
theorem t16a : aggT TC.P 16 = some false := by kernel_rfl
theorem t16b : bytesT TC.P 16 = some 8 := by kernel_rfl
theorem t16z : zeroC TC.P 16 = some .nilp := by kernel_rfl
theorem t16p : placesT TC.P 16 = none := by kernel_rfl
theorem t16k : sortT TC.P 16 = .ptr := by kernel_rfl
attribute [simp] t16s t16a t16b t16z t16p t16k
theorem t17s : sizeT TC.P 17 = some 1 := by kernel_rfl
theorem t17a : aggT TC.P 17 = some false := by kernel_rfl
theorem t17b : bytesT TC.P 17 = some 8 := by kernel_rfl
theorem t17z : zeroC TC.P 17 = some .nilp := by kernel_rfl
theorem t17p : placesT TC.P 17 = none := by kernel_rfl
theorem t17k : sortT TC.P 17 = .ptr := by kernel_rfl
attribute [simp] t17s t17a t17b t17z t17p t17k
theorem t18s : sizeT TC.P 18 = some 1 := by kernel_rfl
theorem t18a : aggT TC.P 18 = some true := by kernel_rfl
theorem t18b : bytesT TC.P 18 = some 8 := by kernel_rfl
theorem t18z : zeroC TC.P 18 = some (.agg [.nilp]) := by kernel_rfl
theorem t18p : placesT TC.P 18 = some [(0, 1)] := by kernel_rfl
theorem t18f0 : fldT TC.P 18 0 = some (0, 17) := by kernel_rfl
theorem t18k : sortT TC.P 18 = .struct := by kernel_rfl
attribute [simp] t18s t18a t18b t18z t18p t18f0 t18k
theorem t19s : sizeT TC.P 19 = some 1 := by kernel_rfl
theorem t19a : aggT TC.P 19 = some true := by kernel_rfl
theorem t19b : bytesT TC.P 19 = some 8 := by kernel_rfl
theorem t19z : zeroC TC.P 19 = some (.agg [.nilp]) := by kernel_rfl
theorem t19p : placesT TC.P 19 = some [(0, 1)] := by kernel_rfl
theorem t19f0 : fldT TC.P 19 0 = some (0, 17) := by kernel_rfl
theorem t19k : sortT TC.P 19 = .struct := by kernel_rfl
attribute [simp] t19s t19a t19b t19z t19p t19f0 t19k
theorem t20s : sizeT TC.P 20 = some 1 := by kernel_rfl
theorem t20a : aggT TC.P 20 = some false := by kernel_rfl
theorem t20b : bytesT TC.P 20 = some 16 := by kernel_rfl
theorem t20z : zeroC TC.P 20 = some .nili := by kernel_rfl
theorem t20p : placesT TC.P 20 = none := by kernel_rfl
theorem t20k : sortT TC.P 20 = .iface := by kernel_rfl
attribute [simp] t20s t20a t20b t20z t20p t20k
theorem t21s : sizeT TC.P 21 = some 1 := by kernel_rfl
theorem t21a : aggT TC.P 21 = some false := by kernel_rfl
theorem t21b : bytesT TC.P 21 = some 4 := by kernel_rfl
theorem t21z : zeroC TC.P 21 = some (.int .i32 (0)) := by kernel_rfl
theorem t21p : placesT TC.P 21 = none := by kernel_rfl
theorem t21k : sortT TC.P 21 = (.int .i32) := by kernel_rfl
attribute [simp] t21s t21a t21b t21z t21p t21k
theorem t22s : sizeT TC.P 22 = some 1 := by kernel_rfl
theorem t22a : aggT TC.P 22 = some false := by kernel_rfl
theorem t22b : bytesT TC.P 22 = some 24 := by kernel_rfl
theorem t22e : elemT TC.P 22 = some 69 := by kernel_rfl
theorem t22z : zeroC TC.P 22 = some .snil := by kernel_rfl
theorem t22p : placesT TC.P 22 = none := by kernel_rfl
theorem t22k : sortT TC.P 22 = .slice := by kernel_rfl
attribute [simp] t22s t22a t22b t22e t22z t22p t22k
theorem t23s : sizeT TC.P 23 = some 1 := by kernel_rfl
theorem t23a : aggT TC.P 23 = some false := by kernel_rfl
theorem t23b : bytesT TC.P 23 = some 8 := by kernel_rfl
theorem t23z : zeroC TC.P 23 = some .nilf := by kernel_rfl
theorem t23p : placesT TC.P 23 = none := by kernel_rfl
theorem t23k : sortT TC.P 23 = .func := by kernel_rfl
attribute [simp] t23s t23a t23b t23z t23p t23k
theorem t24s : sizeT TC.P 24 = some 1 := by kernel_rfl
theorem t24a : aggT TC.P 24 = some false := by kernel_rfl
theorem t24b : bytesT TC.P 24 = some 8 := by kernel_rfl
theorem t24z : zeroC TC.P 24 = some .nilf := by kernel_rfl
theorem t24p : placesT TC.P 24 = none := by kernel_rfl
theorem t24k : sortT TC.P 24 = .func := by kernel_rfl
attribute [simp] t24s t24a t24b t24z t24p t24k
theorem t25s : sizeT TC.P 25 = some 1 := by kernel_rfl
theorem t25a : aggT TC.P 25 = some false := by kernel_rfl
theorem t25b : bytesT TC.P 25 = some 24 := by kernel_rfl
theorem t25e : elemT TC.P 25 = some 38 := by kernel_rfl
theorem t25z : zeroC TC.P 25 = some .snil := by kernel_rfl
theorem t25p : placesT TC.P 25 = none := by kernel_rfl
theorem t25k : sortT TC.P 25 = .slice := by kernel_rfl
attribute [simp] t25s t25a t25b t25e t25z t25p t25k
theorem t26s : sizeT TC.P 26 = some 1 := by kernel_rfl
theorem t26a : aggT TC.P 26 = some false := by kernel_rfl
theorem t26b : bytesT TC.P 26 = some 8 := by kernel_rfl
theorem t26z : zeroC TC.P 26 = some .nilf := by kernel_rfl
theorem t26p : placesT TC.P 26 = none := by kernel_rfl
theorem t26k : sortT TC.P 26 = .func := by kernel_rfl
attribute [simp] t26s t26a t26b t26z t26p t26k
theorem t27s : sizeT TC.P 27 = some 1 := by kernel_rfl
theorem t27a : aggT TC.P 27 = some false := by kernel_rfl
theorem t27b : bytesT TC.P 27 = some 8 := by kernel_rfl
theorem t27z : zeroC TC.P 27 = some .nilf := by kernel_rfl
theorem t27p : placesT TC.P 27 = none := by kernel_rfl
theorem t27k : sortT TC.P 27 = .func := by kernel_rfl
attribute [simp] t27s t27a t27b t27z t27p t27k
theorem t28s : sizeT TC.P 28 = some 1 := by kernel_rfl
theorem t28a : aggT TC.P 28 = some false := by kernel_rfl
theorem t28b : bytesT TC.P 28 = some 24 := by kernel_rfl
theorem t28e : elemT TC.P 28 = some 3 := by kernel_rfl
theorem t28z : zeroC TC.P 28 = some .snil := by kernel_rfl
theorem t28p : placesT TC.P 28 = none := by kernel_rfl
theorem t28k : sortT TC.P 28 = .slice := by kernel_rfl
attribute [simp] t28s t28a t28b t28e t28z t28p t28k
theorem t29s : sizeT TC.P 29 = some 1 := by kernel_rfl
theorem t29a : aggT TC.P 29 = some false := by kernel_rfl
theorem t29b : bytesT TC.P 29 = some 8 := by kernel_rfl
theorem t29z : zeroC TC.P 29 = some .nilf := by kernel_rfl
theorem t29p : placesT TC.P 29 = none := by kernel_rfl
theorem t29k : sortT TC.P 29 = .func := by kernel_rfl
attribute [simp] t29s t29a t29b t29z t29p t29k
theorem t30s : sizeT TC.P 30 = some 1 := by kernel_rfl
theorem t30a : aggT TC.P 30 = some false := by kernel_rfl
theorem t30b : bytesT TC.P 30 = some 8 := by kernel_rfl
theorem t30z : zeroC TC.P 30 = some .nilf := by kernel_rfl
theorem t30p : placesT TC.P 30 = none := by kernel_rfl
theorem t30k : sortT TC.P 30 = .func := by kernel_rfl
attribute [simp] t30s t30a t30b t30z t30p t30k
theorem t31s : sizeT TC.P 31 = some 1 := by kernel_rfl
theorem t31a : aggT TC.P 31 = some false := by kernel_rfl
theorem t31b : bytesT TC.P 31 = some 8 := by kernel_rfl
theorem t31z : zeroC TC.P 31 = some .nilf := by kernel_rfl
theorem t31p : placesT TC.P 31 = none := by kernel_rfl
theorem t31k : sortT TC.P 31 = .func := by kernel_rfl
attribute [simp] t31s t31a t31b t31z t31p t31k
theorem t32s : sizeT TC.P 32 = some 1 := by kernel_rfl
theorem t32a : aggT TC.P 32 = some false := by kernel_rfl
theorem t32b : bytesT TC.P 32 = some 8 := by kernel_rfl
theorem t32z : zeroC TC.P 32 = some .nilf := by kernel_rfl
theorem t32p : placesT TC.P 32 = none := by kernel_rfl
theorem t32k : sortT TC.P 32 = .func := by kernel_rfl
attribute [simp] t32s t32a t32b t32z t32p t32k
theorem t33s : sizeT TC.P 33 = some 1 := by kernel_rfl
theorem t33a : aggT TC.P 33 = some false := by kernel_rfl
theorem t33b : bytesT TC.P 33 = some 8 := by kernel_rfl
theorem t33z : zeroC TC.P 33 = some (.int .u64 (0)) := by kernel_rfl
theorem t33p : placesT TC.P 33 = none := by kernel_rfl
theorem t33k : sortT TC.P 33 = (.int .u64) := by kernel_rfl
attribute [simp] t33s t33a t33b t33z t33p t33k
theorem t34s : sizeT TC.P 34 = some 1 := by kernel_rfl
theorem t34a : aggT TC.P 34 = some false := by kernel_rfl
theorem t34b : bytesT TC.P 34 = some 8 := by kernel_rfl
theorem t34z : zeroC TC.P 34 = some .nilf := by kernel_rfl
theorem t34p : placesT TC.P 34 = none := by kernel_rfl
theorem t34k : sortT TC.P 34 = .func := by kernel_rfl
attribute [simp] t34s t34a t34b t34z t34p t34k
theorem t35s : sizeT TC.P 35 = some 1 := by kernel_rfl
theorem t35a : aggT TC.P 35 = some false := by kernel_rfl
theorem t35b : bytesT TC.P 35 = some 8 := by kernel_rfl
theorem t35z : zeroC TC.P 35 = some .nilf := by kernel_rfl
theorem t35p : placesT TC.P 35 = none := by kernel_rfl
theorem t35k : sortT TC.P 35 = .func := by kernel_rfl
attribute [simp] t35s t35a t35b t35z t35p t35k
theorem t36s : sizeT TC.P 36 = some 1 := by kernel_rfl
theorem t36a : aggT TC.P 36 = some false := by kernel_rfl
theorem t36b : bytesT TC.P 36 = some 24 := by kernel_rfl
theorem t36e : elemT TC.P 36 = some 77 := by kernel_rfl
theorem t36z : zeroC TC.P 36 = some .snil := by kernel_rfl
theorem t36p : placesT TC.P 36 = none := by kernel_rfl
theorem t36k : sortT TC.P 36 = .slice := by kernel_rfl
attribute [simp] t36s t36a t36b t36e t36z t36p t36k
theorem t37s : sizeT TC.P 37 = some 2 := by kernel_rfl
theorem t37a : aggT TC.P 37 = some true := by kernel_rfl
theorem t37b : bytesT TC.P 37 = some 32 := by kernel_rfl
theorem t37z : zeroC TC.P 37 = some (.agg [(.int .i64 (0)), .snil]) := by kernel_rfl
theorem t37p : placesT TC.P 37 = some [(0, 1), (1, 1)] := by kernel_rfl
theorem t37f0 : fldT TC.P 37 0 = some (0, 3) := by kernel_rfl
theorem t37f1 : fldT TC.P 37 1 = some (1, 36) := by kernel_rfl
theorem t37c : cmpT TC.P 37 = some [(0, 3), (1, 36)] := by kernel_rfl
theorem t37k : sortT TC.P 37 = .struct := by kernel_rfl
attribute [simp] t37s t37a t37b t37z t37p t37f0 t37f1 t37c t37k
theorem t38s : sizeT TC.P 38 = some 2 := by kernel_rfl
theorem t38a : aggT TC.P 38 = some true := by kernel_rfl
theorem t38b : bytesT TC.P 38 = some 32 := by kernel_rfl
theorem t38z : zeroC TC.P 38 = some (.agg [(.int .i64 (0)), .snil]) := by kernel_rfl
theorem t38p : placesT TC.P 38 = some [(0, 1), (1, 1)] := by kernel_rfl
theorem t38f0 : fldT TC.P 38 0 = some (0, 3) := by kernel_rfl
theorem t38f1 : fldT TC.P 38 1 = some (1, 36) := by kernel_rfl
theorem t38c : cmpT TC.P 38 = some [(0, 3), (1, 36)] := by kernel_rfl
theorem t38k : sortT TC.P 38 = .struct := by kernel_rfl
attribute [simp] t38s t38a t38b t38z t38p t38f0 t38f1 t38c t38k
theorem t39s : sizeT TC.P 39 = some 1 := by kernel_rfl
theorem t39a : aggT TC.P 39 = some false := by kernel_rfl
theorem t39b : bytesT TC.P 39 = some 24 := by kernel_rfl
theorem t39e : elemT TC.P 39 = some 25 := by kernel_rfl
theorem t39z : zeroC TC.P 39 = some .snil := by kernel_rfl
theorem t39p : placesT TC.P 39 = none := by kernel_rfl
theorem t39k : sortT TC.P 39 = .slice := by kernel_rfl
attribute [simp] t39s t39a t39b t39e t39z t39p t39k
theorem t40s : sizeT TC.P 40 = some 1 := by kernel_rfl
theorem t40a : aggT TC.P 40 = some false := by kernel_rfl
theorem t40b : bytesT TC.P 40 = some 8 := by kernel_rfl
theorem t40z : zeroC TC.P 40 = some .nilf := by kernel_rfl
theorem t40p : placesT TC.P 40 = none := by kernel_rfl
theorem t40k : sortT TC.P 40 = .func := by kernel_rfl
attribute [simp] t40s t40a t40b t40z t40p t40k
theorem t41s : sizeT TC.P 41 = some 1 := by kernel_rfl
theorem t41a : aggT TC.P 41 = some false := by kernel_rfl
theorem t41b : bytesT TC.P 41 = some 8 := by kernel_rfl
theorem t41z : zeroC TC.P 41 = some .nilf := by kernel_rfl
theorem t41p : placesT TC.P 41 = none := by kernel_rfl
theorem t41k : sortT TC.P 41 = .func := by kernel_rfl
attribute [simp] t41s t41a t41b t41z t41p t41k
theorem t42s : sizeT TC.P 42 = some 1 := by kernel_rfl
theorem t42a : aggT TC.P 42 = some false := by kernel_rfl
theorem t42b : bytesT TC.P 42 = some 24 := by kernel_rfl
theorem t42e : elemT TC.P 42 = some 5 := by kernel_rfl
theorem t42z : zeroC TC.P 42 = some .snil := by kernel_rfl
theorem t42p : placesT TC.P 42 = none := by kernel_rfl
theorem t42k : sortT TC.P 42 = .slice := by kernel_rfl
attribute [simp] t42s t42a t42b t42e t42z t42p t42k
theorem t43s : sizeT TC.P 43 = some 1 := by kernel_rfl
theorem t43a : aggT TC.P 43 = some false := by kernel_rfl
theorem t43b : bytesT TC.P 43 = some 0 := by kernel_rfl
theorem t43p : placesT TC.P 43 = none := by kernel_rfl
theorem t43k : sortT TC.P 43 = .tuple := by kernel_rfl
attribute [simp] t43s t43a t43b t43p t43k
theorem t44s : sizeT TC.P 44 = some 1 := by kernel_rfl
theorem t44a : aggT TC.P 44 = some false := by kernel_rfl
theorem t44b : bytesT TC.P 44 = some 8 := by kernel_rfl
theorem t44z : zeroC TC.P 44 = some .nilf := by kernel_rfl
theorem t44p : placesT TC.P 44 = none := by kernel_rfl
theorem t44k : sortT TC.P 44 = .func := by kernel_rfl
attribute [simp] t44s t44a t44b t44z t44p t44k
theorem t45s : sizeT TC.P 45 = some 1 := by kernel_rfl
theorem t45a : aggT TC.P 45 = some false := by kernel_rfl
theorem t45b : bytesT TC.P 45 = some 8 := by kernel_rfl
theorem t45z : zeroC TC.P 45 = some .nilf := by kernel_rfl
theorem t45p : placesT TC.P 45 = none := by kernel_rfl
theorem t45k : sortT TC.P 45 = .func := by kernel_rfl
attribute [simp] t45s t45a t45b t45z t45p t45k
theorem t46s : sizeT TC.P 46 = some 1 := by kernel_rfl
theorem t46a : aggT TC.P 46 = some false := by kernel_rfl
theorem t46b : bytesT TC.P 46 = some 8 := by kernel_rfl
theorem t46z : zeroC TC.P 46 = some .nilf := by kernel_rfl
theorem t46p : placesT TC.P 46 = none := by kernel_rfl
theorem t46k : sortT TC.P 46 = .func := by kernel_rfl
attribute [simp] t46s t46a t46b t46z t46p t46k
theorem t47s : sizeT TC.P 47 = some 1 := by kernel_rfl
theorem t47a : aggT TC.P 47 = some false := by kernel_rfl
theorem t47b : bytesT TC.P 47 = some 8 := by kernel_rfl
theorem t47z : zeroC TC.P 47 = some .nilf := by kernel_rfl
theorem t47p : placesT TC.P 47 = none := by kernel_rfl
theorem t47k : sortT TC.P 47 = .func := by kernel_rfl
attribute [simp] t47s t47a t47b t47z t47p t47k
theorem t48s : sizeT TC.P 48 = some 1 := by kernel_rfl
theorem t48a : aggT TC.P 48 = some false := by kernel_rfl
theorem t48b : bytesT TC.P 48 = some 8 := by kernel_rfl
theorem t48z : zeroC TC.P 48 = some .nilf := by kernel_rfl
theorem t48p : placesT TC.P 48 = none := by kernel_rfl
theorem t48k : sortT TC.P 48 = .func := by kernel_rfl
attribute [simp] t48s t48a t48b t48z t48p t48k
theorem t49s : sizeT TC.P 49 = some 1 := by kernel_rfl
theorem t49a : aggT TC.P 49 = some false := by kernel_rfl
theorem t49b : bytesT TC.P 49 = some 8 := by kernel_rfl
theorem t49z : zeroC TC.P 49 = some .nilf := by kernel_rfl
theorem t49p : placesT TC.P 49 = none := by kernel_rfl
theorem t49k : sortT TC.P 49 = .func := by kernel_rfl
attribute [simp] t49s t49a t49b t49z t49p t49k
theorem t50s : sizeT TC.P 50 = some 1 := by kernel_rfl
theorem t50a : aggT TC.P 50 = some false := by kernel_rfl
theorem t50b : bytesT TC.P 50 = some 8 := by kernel_rfl
theorem t50z : zeroC TC.P 50 = some .nilf := by kernel_rfl
theorem t50p : placesT TC.P 50 = none := by kernel_rfl
theorem t50k : sortT TC.P 50 = .func := by kernel_rfl
attribute [simp] t50s t50a t50b t50z t50p t50k
theorem t51s : sizeT TC.P 51 = some 1 := by kernel_rfl
theorem t51a : aggT TC.P 51 = some false := by kernel_rfl
theorem t51b : bytesT TC.P 51 = some 8 := by kernel_rfl
theorem t51z : zeroC TC.P 51 = some .nilf := by kernel_rfl
theorem t51p : placesT TC.P 51 = none := by kernel_rfl
theorem t51k : sortT TC.P 51 = .func := by kernel_rfl
attribute [simp] t51s t51a t51b t51z t51p t51k
theorem t52s : sizeT TC.P 52 = some 1 := by kernel_rfl
theorem t52a : aggT TC.P 52 = some false := by kernel_rfl
theorem t52b : bytesT TC.P 52 = some 24 := by kernel_rfl
theorem t52e : elemT TC.P 52 = some 54 := by kernel_rfl
theorem t52z : zeroC TC.P 52 = some .snil := by kernel_rfl
theorem t52p : placesT TC.P 52 = none := by kernel_rfl
theorem t52k : sortT TC.P 52 = .slice := by kernel_rfl
attribute [simp] t52s t52a t52b t52e t52z t52p t52k
theorem t53s : sizeT TC.P 53 = some 2 := by kernel_rfl
theorem t53a : aggT TC.P 53 = some true := by kernel_rfl
theorem t53b : bytesT TC.P 53 = some 16 := by kernel_rfl
theorem t53z : zeroC TC.P 53 = some (.agg [(.int .i64 (0)), (.int .i64 (0))]) := by kernel_rfl
theorem t53p : placesT TC.P 53 = some [(0, 1), (1, 1)] := by kernel_rfl
theorem t53f0 : fldT TC.P 53 0 = some (0, 3) := by kernel_rfl
theorem t53f1 : fldT TC.P 53 1 = some (1, 3) := by kernel_rfl
theorem t53c : cmpT TC.P 53 = some [(0, 3), (1, 3)] := by kernel_rfl
theorem t53k : sortT TC.P 53 = .struct := by kernel_rfl
attribute [simp] t53s t53a t53b t53z t53p t53f0 t53f1 t53c t53k
theorem t54s : sizeT TC.P 54 = some 2 := by kernel_rfl
theorem t54a : aggT TC.P 54 = some true := by kernel_rfl
theorem t54b : bytesT TC.P 54 = some 16 := by kernel_rfl
theorem t54z : zeroC TC.P 54 = some (.agg [(.int .i64 (0)), (.int .i64 (0))]) := by kernel_rfl
theorem t54p : placesT TC.P 54 = some [(0, 1), (1, 1)] := by kernel_rfl
theorem t54f0 : fldT TC.P 54 0 = some (0, 3) := by kernel_rfl
theorem t54f1 : fldT TC.P 54 1 = some (1, 3) := by kernel_rfl
theorem t54c : cmpT TC.P 54 = some [(0, 3), (1, 3)] := by kernel_rfl
theorem t54k : sortT TC.P 54 = .struct := by kernel_rfl
attribute [simp] t54s t54a t54b t54z t54p t54f0 t54f1 t54c t54k
theorem t55s : sizeT TC.P 55 = some 1 := by kernel_rfl
theorem t55a : aggT TC.P 55 = some false := by kernel_rfl
theorem t55b : bytesT TC.P 55 = some 8 := by kernel_rfl
theorem t55z : zeroC TC.P 55 = some .nilf := by kernel_rfl
theorem t55p : placesT TC.P 55 = none := by kernel_rfl
theorem t55k : sortT TC.P 55 = .func := by kernel_rfl
attribute [simp] t55s t55a t55b t55z t55p t55k
theorem t56s : sizeT TC.P 56 = some 1 := by kernel_rfl
theorem t56a : aggT TC.P 56 = some false := by kernel_rfl
theorem t56b : bytesT TC.P 56 = some 24 := by kernel_rfl
theorem t56e : elemT TC.P 56 = some 28 := by kernel_rfl
theorem t56z : zeroC TC.P 56 = some .snil := by kernel_rfl
theorem t56p : placesT TC.P 56 = none := by kernel_rfl
theorem t56k : sortT TC.P 56 = .slice := by kernel_rfl
attribute [simp] t56s t56a t56b t56e t56z t56p t56k
theorem t57s : sizeT TC.P 57 = some 1 := by kernel_rfl
theorem t57a : aggT TC.P 57 = some false := by kernel_rfl
theorem t57b : bytesT TC.P 57 = some 8 := by kernel_rfl
theorem t57z : zeroC TC.P 57 = some .nilf := by kernel_rfl
theorem t57p : placesT TC.P 57 = none := by kernel_rfl
theorem t57k : sortT TC.P 57 = .func := by kernel_rfl
attribute [simp] t57s t57a t57b t57z t57p t57k
theorem t58s : sizeT TC.P 58 = some 1 := by kernel_rfl
theorem t58a : aggT TC.P 58 = some false := by kernel_rfl
theorem t58b : bytesT TC.P 58 = some 8 := by kernel_rfl
theorem t58z : zeroC TC.P 58 = some .nilf := by kernel_rfl
theorem t58p : placesT TC.P 58 = none := by kernel_rfl
theorem t58k : sortT TC.P 58 = .func := by kernel_rfl
attribute [simp] t58s t58a t58b t58z t58p t58k
theorem t59s : sizeT TC.P 59 = some 1 := by kernel_rfl
theorem t59a : aggT TC.P 59 = some false := by kernel_rfl
theorem t59b : bytesT TC.P 59 = some 8 := by kernel_rfl
theorem t59z : zeroC TC.P 59 = some .nilf := by kernel_rfl
theorem t59p : placesT TC.P 59 = none := by kernel_rfl
theorem t59k : sortT TC.P 59 = .func := by kernel_rfl
attribute [simp] t59s t59a t59b t59z t59p t59k
theorem t60s : sizeT TC.P 60 = some 1 := by kernel_rfl
theorem t60a : aggT TC.P 60 = some false := by kernel_rfl
theorem t60b : bytesT TC.P 60 = some 8 := by kernel_rfl
theorem t60z : zeroC TC.P 60 = some .nilf := by kernel_rfl
theorem t60p : placesT TC.P 60 = none := by kernel_rfl
theorem t60k : sortT TC.P 60 = .func := by kernel_rfl
attribute [simp] t60s t60a t60b t60z t60p t60k
theorem t61s : sizeT TC.P 61 = some 1 := by kernel_rfl
theorem t61a : aggT TC.P 61 = some false := by kernel_rfl
theorem t61b : bytesT TC.P 61 = some 8 := by kernel_rfl
theorem t61z : zeroC TC.P 61 = some .nilf := by kernel_rfl
theorem t61p : placesT TC.P 61 = none := by kernel_rfl
theorem t61k : sortT TC.P 61 = .func := by kernel_rfl
attribute [simp] t61s t61a t61b t61z t61p t61k
theorem t62s : sizeT TC.P 62 = some 1 := by kernel_rfl
theorem t62a : aggT TC.P 62 = some false := by kernel_rfl
theorem t62b : bytesT TC.P 62 = some 8 := by kernel_rfl
theorem t62z : zeroC TC.P 62 = some .nilf := by kernel_rfl
theorem t62p : placesT TC.P 62 = none := by kernel_rfl
theorem t62k : sortT TC.P 62 = .func := by kernel_rfl
attribute [simp] t62s t62a t62b t62z t62p t62k
theorem t63s : sizeT TC.P 63 = some 1 := by kernel_rfl
theorem t63a : aggT TC.P 63 = some false := by kernel_rfl
theorem t63b : bytesT TC.P 63 = some 8 := by kernel_rfl
theorem t63z : zeroC TC.P 63 = some .nilf := by kernel_rfl
theorem t63p : placesT TC.P 63 = none := by kernel_rfl
theorem t63k : sortT TC.P 63 = .func := by kernel_rfl
attribute [simp] t63s t63a t63b t63z t63p t63k
theorem t64s : sizeT TC.P 64 = some 1 := by kernel_rfl
theorem t64a : aggT TC.P 64 = some false := by kernel_rfl
theorem t64b : bytesT TC.P 64 = some 8 := by kernel_rfl
theorem t64z : zeroC TC.P 64 = some .nilf := by kernel_rfl
theorem t64p : placesT TC.P 64 = none := by kernel_rfl
theorem t64k : sortT TC.P 64 = .func := by kernel_rfl
attribute [simp] t64s t64a t64b t64z t64p t64k
theorem t65s : sizeT TC.P 65 = some 1 := by kernel_rfl
theorem t65a : aggT TC.P 65 = some false := by kernel_rfl
theorem t65b : bytesT TC.P 65 = some 8 := by kernel_rfl
theorem t65z : zeroC TC.P 65 = some .nilf := by kernel_rfl
theorem t65p : placesT TC.P 65 = none := by kernel_rfl
theorem t65k : sortT TC.P 65 = .func := by kernel_rfl
attribute [simp] t65s t65a t65b t65z t65p t65k
theorem t66s : sizeT TC.P 66 = some 1 := by kernel_rfl
theorem t66a : aggT TC.P 66 = some false := by kernel_rfl
theorem t66b : bytesT TC.P 66 = some 8 := by kernel_rfl
theorem t66z : zeroC TC.P 66 = some .nilf := by kernel_rfl
theorem t66p : placesT TC.P 66 = none := by kernel_rfl
theorem t66k : sortT TC.P 66 = .func := by kernel_rfl
attribute [simp] t66s t66a t66b t66z t66p t66k
theorem t67s : sizeT TC.P 67 = some 1 := by kernel_rfl
theorem t67a : aggT TC.P 67 = some false := by kernel_rfl
theorem t67b : bytesT TC.P 67 = some 24 := by kernel_rfl
theorem t67e : elemT TC.P 67 = some 92 := by kernel_rfl
theorem t67z : zeroC TC.P 67 = some .snil := by kernel_rfl
theorem t67p : placesT TC.P 67 = none := by kernel_rfl
theorem t67k : sortT TC.P 67 = .slice := by kernel_rfl
attribute [simp] t67s t67a t67b t67e t67z t67p t67k
theorem t68s : sizeT TC.P 68 = some 2 := by kernel_rfl
theorem t68a : aggT TC.P 68 = some true := by kernel_rfl
theorem t68b : bytesT TC.P 68 = some 32 := by kernel_rfl
theorem t68z : zeroC TC.P 68 = some (.agg [(.int .u8 (0)), .snil]) := by kernel_rfl
theorem t68p : placesT TC.P 68 = some [(0, 1), (1, 1)] := by kernel_rfl
theorem t68f0 : fldT TC.P 68 0 = some (0, 5) := by kernel_rfl
theorem t68f1 : fldT TC.P 68 1 = some (1, 67) := by kernel_rfl
theorem t68c : cmpT TC.P 68 = some [(0, 5), (1, 67)] := by kernel_rfl
theorem t68k : sortT TC.P 68 = .struct := by kernel_rfl
attribute [simp] t68s t68a t68b t68z t68p t68f0 t68f1 t68c t68k
theorem t69s : sizeT TC.P 69 = some 2 := by kernel_rfl
theorem t69a : aggT TC.P 69 = some true := by kernel_rfl
theorem t69b : bytesT TC.P 69 = some 32 := by kernel_rfl
theorem t69z : zeroC TC.P 69 = some (.agg [(.int .u8 (0)), .snil]) := by kernel_rfl
theorem t69p : placesT TC.P 69 = some [(0, 1), (1, 1)] := by kernel_rfl
theorem t69f0 : fldT TC.P 69 0 = some (0, 5) := by kernel_rfl
theorem t69f1 : fldT TC.P 69 1 = some (1, 67) := by kernel_rfl
theorem t69c : cmpT TC.P 69 = some [(0, 5), (1, 67)] := by kernel_rfl
theorem t69k : sortT TC.P 69 = .struct := by kernel_rfl
attribute [simp] t69s t69a t69b t69z t69p t69f0 t69f1 t69c t69k
theorem t70s : sizeT TC.P 70 = some 1 := by kernel_rfl
theorem t70a : aggT TC.P 70 = some false := by kernel_rfl
theorem t70b : bytesT TC.P 70 = some 8 := by kernel_rfl
theorem t70z : zeroC TC.P 70 = some .nilf := by kernel_rfl
theorem t70p : placesT TC.P 70 = none := by kernel_rfl
theorem t70k : sortT TC.P 70 = .func := by kernel_rfl
attribute [simp] t70s t70a t70b t70z t70p t70k
theorem t71s : sizeT TC.P 71 = some 1 := by kernel_rfl
theorem t71a : aggT TC.P 71 = some false := by kernel_rfl
theorem t71b : bytesT TC.P 71 = some 8 := by kernel_rfl
theorem t71z : zeroC TC.P 71 = some .nilf := by kernel_rfl
theorem t71p : placesT TC.P 71 = none := by kernel_rfl
theorem t71k : sortT TC.P 71 = .func := by kernel_rfl
attribute [simp] t71s t71a t71b t71z t71p t71k
theorem t72s : sizeT TC.P 72 = some 1 := by kernel_rfl
theorem t72a : aggT TC.P 72 = some false := by kernel_rfl
theorem t72b : bytesT TC.P 72 = some 8 := by kernel_rfl
theorem t72z : zeroC TC.P 72 = some .nilf := by kernel_rfl
theorem t72p : placesT TC.P 72 = none := by kernel_rfl
theorem t72k : sortT TC.P 72 = .func := by kernel_rfl
attribute [simp] t72s t72a t72b t72z t72p t72k
theorem t73s : sizeT TC.P 73 = some 1 := by kernel_rfl
theorem t73a : aggT TC.P 73 = some false := by kernel_rfl
theorem t73b : bytesT TC.P 73 = some 8 := by kernel_rfl
theorem t73z : zeroC TC.P 73 = some .nilf := by kernel_rfl
theorem t73p : placesT TC.P 73 = none := by kernel_rfl
theorem t73k : sortT TC.P 73 = .func := by kernel_rfl
attribute [simp] t73s t73a t73b t73z t73p t73k
theorem t74s : sizeT TC.P 74 = some 1 := by kernel_rfl
theorem t74a : aggT TC.P 74 = some false := by kernel_rfl
theorem t74b : bytesT TC.P 74 = some 8 := by kernel_rfl
theorem t74z : zeroC TC.P 74 = some .nilf := by kernel_rfl
theorem t74p : placesT TC.P 74 = none := by kernel_rfl
theorem t74k : sortT TC.P 74 = .func := by kernel_rfl
attribute [simp] t74s t74a t74b t74z t74p t74k
theorem t75s : sizeT TC.P 75 = some 1 := by kernel_rfl
theorem t75a : aggT TC.P 75 = some false := by kernel_rfl
theorem t75b : bytesT TC.P 75 = some 8 := by kernel_rfl
theorem t75z : zeroC TC.P 75 = some .nilf := by kernel_rfl
theorem t75p : placesT TC.P 75 = none := by kernel_rfl
theorem t75k : sortT TC.P 75 = .func := by kernel_rfl
attribute [simp] t75s t75a t75b t75z t75p t75k
theorem t76s : sizeT TC.P 76 = some 2 := by kernel_rfl
theorem t76a : aggT TC.P 76 = some true := by kernel_rfl
theorem t76b : bytesT TC.P 76 = some 16 := by kernel_rfl
theorem t76z : zeroC TC.P 76 = some (.agg [(.int .i64 (0)), (.bool false)]) := by kernel_rfl
theorem t76p : placesT TC.P 76 = some [(0, 1), (1, 1)] := by kernel_rfl
theorem t76f0 : fldT TC.P 76 0 = some (0, 3) := by kernel_rfl
theorem t76f1 : fldT TC.P 76 1 = some (1, 4) := by kernel_rfl
theorem t76c : cmpT TC.P 76 = some [(0, 3), (1, 4)] := by kernel_rfl
theorem t76k : sortT TC.P 76 = .struct := by kernel_rfl
attribute [simp] t76s t76a t76b t76z t76p t76f0 t76f1 t76c t76k
theorem t77s : sizeT TC.P 77 = some 2 := by kernel_rfl
theorem t77a : aggT TC.P 77 = some true := by kernel_rfl
theorem t77b : bytesT TC.P 77 = some 16 := by kernel_rfl
theorem t77z : zeroC TC.P 77 = some (.agg [(.int .i64 (0)), (.bool false)]) := by kernel_rfl
theorem t77p : placesT TC.P 77 = some [(0, 1), (1, 1)] := by kernel_rfl
theorem t77f0 : fldT TC.P 77 0 = some (0, 3) := by kernel_rfl
theorem t77f1 : fldT TC.P 77 1 = some (1, 4) := by kernel_rfl
theorem t77c : cmpT TC.P 77 = some [(0, 3), (1, 4)] := by kernel_rfl
theorem t77k : sortT TC.P 77 = .struct := by kernel_rfl
attribute [simp] t77s t77a t77b t77z t77p t77f0 t77f1 t77c t77k
theorem t78s : sizeT TC.P 78 = some 3 := by kernel_rfl
theorem t78a : aggT TC.P 78 = some true := by kernel_rfl
theorem t78b : bytesT TC.P 78 = some 72 := by kernel_rfl
theorem t78z : zeroC TC.P 78 = some (.agg [.snil, .snil, .snil]) := by kernel_rfl
theorem t78p : placesT TC.P 78 = some [(0, 1), (1, 1), (2, 1)] := by kernel_rfl
theorem t78f0 : fldT TC.P 78 0 = some (0, 25) := by kernel_rfl
theorem t78f1 : fldT TC.P 78 1 = some (1, 56) := by kernel_rfl
theorem t78f2 : fldT TC.P 78 2 = some (2, 28) := by kernel_rfl
theorem t78c : cmpT TC.P 78 = some [(0, 25), (1, 56), (2, 28)] := by kernel_rfl
theorem t78k : sortT TC.P 78 = .struct := by kernel_rfl
attribute [simp] t78s t78a t78b t78z t78p t78f0 t78f1 t78f2 t78c t78k
theorem t79s : sizeT TC.P 79 = some 3 := by kernel_rfl
theorem t79a : aggT TC.P 79 = some true := by kernel_rfl
theorem t79b : bytesT TC.P 79 = some 72 := by kernel_rfl
theorem t79z : zeroC TC.P 79 = some (.agg [.snil, .snil, .snil]) := by kernel_rfl
theorem t79p : placesT TC.P 79 = some [(0, 1), (1, 1), (2, 1)] := by kernel_rfl
theorem t79f0 : fldT TC.P 79 0 = some (0, 25) := by kernel_rfl
theorem t79f1 : fldT TC.P 79 1 = some (1, 56) := by kernel_rfl
theorem t79f2 : fldT TC.P 79 2 = some (2, 28) := by kernel_rfl
theorem t79c : cmpT TC.P 79 = some [(0, 25), (1, 56), (2, 28)] := by kernel_rfl
theorem t79k : sortT TC.P 79 = .struct := by kernel_rfl
attribute [simp] t79s t79a t79b t79z t79p t79f0 t79f1 t79f2 t79c t79k
theorem t80s : sizeT TC.P 80 = some 1 := by kernel_rfl
theorem t80a : aggT TC.P 80 = some false := by kernel_rfl
theorem t80b : bytesT TC.P 80 = some 8 := by kernel_rfl
theorem t80z : zeroC TC.P 80 = some .nilf := by kernel_rfl
theorem t80p : placesT TC.P 80 = none := by kernel_rfl
theorem t80k : sortT TC.P 80 = .func := by kernel_rfl
attribute [simp] t80s t80a t80b t80z t80p t80k
theorem t81s : sizeT TC.P 81 = some 1 := by kernel_rfl
theorem t81a : aggT TC.P 81 = some false := by kernel_rfl
theorem t81b : bytesT TC.P 81 = some 8 := by kernel_rfl
theorem t81z : zeroC TC.P 81 = some .nilf := by kernel_rfl
theorem t81p : placesT TC.P 81 = none := by kernel_rfl
theorem t81k : sortT TC.P 81 = .func := by kernel_rfl
attribute [simp] t81s t81a t81b t81z t81p t81k
theorem t82s : sizeT TC.P 82 = some 1 := by kernel_rfl
theorem t82a : aggT TC.P 82 = some false := by kernel_rfl
theorem t82b : bytesT TC.P 82 = some 8 := by kernel_rfl
theorem t82z : zeroC TC.P 82 = some .nilf := by kernel_rfl
theorem t82p : placesT TC.P 82 = none := by kernel_rfl
theorem t82k : sortT TC.P 82 = .func := by kernel_rfl
attribute [simp] t82s t82a t82b t82z t82p t82k
theorem t83s : sizeT TC.P 83 = some 1 := by kernel_rfl
theorem t83a : aggT TC.P 83 = some false := by kernel_rfl
theorem t83b : bytesT TC.P 83 = some 8 := by kernel_rfl
theorem t83z : zeroC TC.P 83 = some .nilf := by kernel_rfl
theorem t83p : placesT TC.P 83 = none := by kernel_rfl
theorem t83k : sortT TC.P 83 = .func := by kernel_rfl
attribute [simp] t83s t83a t83b t83z t83p t83k
theorem t84s : sizeT TC.P 84 = some 1 := by kernel_rfl
theorem t84a : aggT TC.P 84 = some false := by kernel_rfl
theorem t84b : bytesT TC.P 84 = some 8 := by kernel_rfl
theorem t84z : zeroC TC.P 84 = some .nilf := by kernel_rfl
theorem t84p : placesT TC.P 84 = none := by kernel_rfl
theorem t84k : sortT TC.P 84 = .func := by kernel_rfl
attribute [simp] t84s t84a t84b t84z t84p t84k
theorem t85s : sizeT TC.P 85 = some 1 := by kernel_rfl
theorem t85a : aggT TC.P 85 = some false := by kernel_rfl
theorem t85b : bytesT TC.P 85 = some 8 := by kernel_rfl
theorem t85z : zeroC TC.P 85 = some .nilf := by kernel_rfl
theorem t85p : placesT TC.P 85 = none := by kernel_rfl
theorem t85k : sortT TC.P 85 = .func := by kernel_rfl
attribute [simp] t85s t85a t85b t85z t85p t85k
theorem t86s : sizeT TC.P 86 = some 1 := by kernel_rfl
theorem t86a : aggT TC.P 86 = some false := by kernel_rfl
theorem t86b : bytesT TC.P 86 = some 8 := by kernel_rfl
theorem t86z : zeroC TC.P 86 = some .nilf := by kernel_rfl
theorem t86p : placesT TC.P 86 = none := by kernel_rfl
theorem t86k : sortT TC.P 86 = .func := by kernel_rfl
attribute [simp] t86s t86a t86b t86z t86p t86k
theorem t87s : sizeT TC.P 87 = some 1 := by kernel_rfl
theorem t87a : aggT TC.P 87 = some false := by kernel_rfl
theorem t87b : bytesT TC.P 87 = some 8 := by kernel_rfl
theorem t87z : zeroC TC.P 87 = some .nilf := by kernel_rfl
theorem t87p : placesT TC.P 87 = none := by kernel_rfl
theorem t87k : sortT TC.P 87 = .func := by kernel_rfl
attribute [simp] t87s t87a t87b t87z t87p t87k
theorem t88s : sizeT TC.P 88 = some 1 := by kernel_rfl
theorem t88a : aggT TC.P 88 = some false := by kernel_rfl
theorem t88b : bytesT TC.P 88 = some 8 := by kernel_rfl
theorem t88z : zeroC TC.P 88 = some .nilf := by kernel_rfl
theorem t88p : placesT TC.P 88 = none := by kernel_rfl
theorem t88k : sortT TC.P 88 = .func := by kernel_rfl
attribute [simp] t88s t88a t88b t88z t88p t88k
theorem t89s : sizeT TC.P 89 = some 1 := by kernel_rfl
theorem t89a : aggT TC.P 89 = some false := by kernel_rfl
theorem t89b : bytesT TC.P 89 = some 8 := by kernel_rfl
theorem t89z : zeroC TC.P 89 = some .nilf := by kernel_rfl
theorem t89p : placesT TC.P 89 = none := by kernel_rfl
theorem t89k : sortT TC.P 89 = .func := by kernel_rfl
attribute [simp] t89s t89a t89b t89z t89p t89k
theorem t90s : sizeT TC.P 90 = some 1 := by kernel_rfl
theorem t90a : aggT TC.P 90 = some false := by kernel_rfl
theorem t90b : bytesT TC.P 90 = some 1 := by kernel_rfl
theorem t90z : zeroC TC.P 90 = some (.int .i8 (0)) := by kernel_rfl
theorem t90p : placesT TC.P 90 = none := by kernel_rfl
theorem t90k : sortT TC.P 90 = (.int .i8) := by kernel_rfl
attribute [simp] t90s t90a t90b t90z t90p t90k
theorem t91s : sizeT TC.P 91 = some 2 := by kernel_rfl
theorem t91a : aggT TC.P 91 = some true := by kernel_rfl
theorem t91b : bytesT TC.P 91 = some 2 := by kernel_rfl
theorem t91z : zeroC TC.P 91 = some (.agg [(.int .i8 (0)), (.bool false)]) := by kernel_rfl
theorem t91p : placesT TC.P 91 = some [(0, 1), (1, 1)] := by kernel_rfl
theorem t91f0 : fldT TC.P 91 0 = some (0, 90) := by kernel_rfl
theorem t91f1 : fldT TC.P 91 1 = some (1, 4) := by kernel_rfl
theorem t91c : cmpT TC.P 91 = some [(0, 90), (1, 4)] := by kernel_rfl
theorem t91k : sortT TC.P 91 = .struct := by kernel_rfl
attribute [simp] t91s t91a t91b t91z t91p t91f0 t91f1 t91c t91k
theorem t92s : sizeT TC.P 92 = some 2 := by kernel_rfl
theorem t92a : aggT TC.P 92 = some true := by kernel_rfl
theorem t92b : bytesT TC.P 92 = some 2 := by kernel_rfl
theorem t92z : zeroC TC.P 92 = some (.agg [(.int .i8 (0)), (.bool false)]) := by kernel_rfl
theorem t92p : placesT TC.P 92 = some [(0, 1), (1, 1)] := by kernel_rfl
theorem t92f0 : fldT TC.P 92 0 = some (0, 90) := by kernel_rfl
theorem t92f1 : fldT TC.P 92 1 = some (1, 4) := by kernel_rfl
theorem t92c : cmpT TC.P 92 = some [(0, 90), (1, 4)] := by kernel_rfl
theorem t92k : sortT TC.P 92 = .struct := by kernel_rfl
attribute [simp] t92s t92a t92b t92z t92p t92f0 t92f1 t92c t92k
theorem t93s : sizeT TC.P 93 = some 1 := by kernel_rfl
theorem t93a : aggT TC.P 93 = some false := by kernel_rfl
theorem t93b : bytesT TC.P 93 = some 8 := by kernel_rfl
theorem t93z : zeroC TC.P 93 = some .nilf := by kernel_rfl
theorem t93p : placesT TC.P 93 = none := by kernel_rfl
theorem t93k : sortT TC.P 93 = .func := by kernel_rfl
attribute [simp] t93s t93a t93b t93z t93p t93k
theorem t94s : sizeT TC.P 94 = some 1 := by kernel_rfl
theorem t94a : aggT TC.P 94 = some false := by kernel_rfl
theorem t94b : bytesT TC.P 94 = some 8 := by kernel_rfl
theorem t94z : zeroC TC.P 94 = some .nilf := by kernel_rfl
theorem t94p : placesT TC.P 94 = none := by kernel_rfl
theorem t94k : sortT TC.P 94 = .func := by kernel_rfl
attribute [simp] t94s t94a t94b t94z t94p t94k
theorem t95s : sizeT TC.P 95 = some 1 := by kernel_rfl
theorem t95a : aggT TC.P 95 = some false := by kernel_rfl
theorem t95b : bytesT TC.P 95 = some 8 := by kernel_rfl
theorem t95z : zeroC TC.P 95 = some .nilf := by kernel_rfl
theorem t95p : placesT TC.P 95 = none := by kernel_rfl
theorem t95k : sortT TC.P 95 = .func := by kernel_rfl
attribute [simp] t95s t95a t95b t95z t95p t95k
theorem t96s : sizeT TC.P 96 = some 1 := by kernel_rfl
theorem t96a : aggT TC.P 96 = some false := by kernel_rfl
theorem t96b : bytesT TC.P 96 = some 8 := by kernel_rfl
theorem t96z : zeroC TC.P 96 = some .nilf := by kernel_rfl
theorem t96p : placesT TC.P 96 = none := by kernel_rfl
theorem t96k : sortT TC.P 96 = .func := by kernel_rfl
attribute [simp] t96s t96a t96b t96z t96p t96k
theorem t97s : sizeT TC.P 97 = some 1 := by kernel_rfl
theorem t97a : aggT TC.P 97 = some false := by kernel_rfl
theorem t97b : bytesT TC.P 97 = some 8 := by kernel_rfl
theorem t97z : zeroC TC.P 97 = some (.int .u64 (0)) := by kernel_rfl
theorem t97p : placesT TC.P 97 = none := by kernel_rfl
theorem t97k : sortT TC.P 97 = (.int .u64) := by kernel_rfl
attribute [simp] t97s t97a t97b t97z t97p t97k
theorem t98s : sizeT TC.P 98 = some 1 := by kernel_rfl
theorem t98a : aggT TC.P 98 = some false := by kernel_rfl
theorem t98b : bytesT TC.P 98 = some 8 := by kernel_rfl
theorem t98z : zeroC TC.P 98 = some .nilf := by kernel_rfl
theorem t98p : placesT TC.P 98 = none := by kernel_rfl
theorem t98k : sortT TC.P 98 = .func := by kernel_rfl
attribute [simp] t98s t98a t98b t98z t98p t98k
theorem t99s : sizeT TC.P 99 = some 1 := by kernel_rfl
theorem t99a : aggT TC.P 99 = some false := by kernel_rfl
theorem t99b : bytesT TC.P 99 = some 8 := by kernel_rfl
theorem t99z : zeroC TC.P 99 = some (.int .i64 (0)) := by kernel_rfl
theorem t99p : placesT TC.P 99 = none := by kernel_rfl
theorem t99k : sortT TC.P 99 = (.int .i64) := by kernel_rfl
attribute [simp] t99s t99a t99b t99z t99p t99k
theorem t100s : sizeT TC.P 100 = some 1 := by kernel_rfl
theorem t100a : aggT TC.P 100 = some false := by kernel_rfl
theorem t100b : bytesT TC.P 100 = some 0 := by kernel_rfl
theorem t100p : placesT TC.P 100 = none := by kernel_rfl
theorem t100k : sortT TC.P 100 = .tuple := by kernel_rfl
attribute [simp] t100s t100a t100b t100p t100k
theorem t101s : sizeT TC.P 101 = some 1 := by kernel_rfl
theorem t101a : aggT TC.P 101 = some false := by kernel_rfl
theorem t101b : bytesT TC.P 101 = some 8 := by kernel_rfl
theorem t101z : zeroC TC.P 101 = some .nilf := by kernel_rfl
theorem t101p : placesT TC.P 101 = none := by kernel_rfl
theorem t101k : sortT TC.P 101 = .func := by kernel_rfl
attribute [simp] t101s t101a t101b t101z t101p t101k
theorem t102s : sizeT TC.P 102 = some 1 := by kernel_rfl
theorem t102a : aggT TC.P 102 = some false := by kernel_rfl
theorem t102b : bytesT TC.P 102 = some 8 := by kernel_rfl
theorem t102z : zeroC TC.P 102 = some .nilf := by kernel_rfl
theorem t102p : placesT TC.P 102 = none := by kernel_rfl
theorem t102k : sortT TC.P 102 = .func := by kernel_rfl
attribute [simp] t102s t102a t102b t102z t102p t102k
theorem t103s : sizeT TC.P 103 = some 1 := by kernel_rfl
theorem t103a : aggT TC.P 103 = some false := by kernel_rfl
theorem t103b : bytesT TC.P 103 = some 8 := by kernel_rfl
theorem t103z : zeroC TC.P 103 = some .nilf := by kernel_rfl
theorem t103p : placesT TC.P 103 = none := by kernel_rfl
theorem t103k : sortT TC.P 103 = .func := by kernel_rfl
attribute [simp] t103s t103a t103b t103z t103p t103k
theorem t104s : sizeT TC.P 104 = some 1 := by kernel_rfl
theorem t104a : aggT TC.P 104 = some false := by kernel_rfl
theorem t104b : bytesT TC.P 104 = some 0 := by kernel_rfl
theorem t104p : placesT TC.P 104 = none := by kernel_rfl
theorem t104k : sortT TC.P 104 = .tuple := by kernel_rfl
attribute [simp] t104s t104a t104b t104p t104k
theorem t105s : sizeT TC.P 105 = some 1 := by kernel_rfl
theorem t105a : aggT TC.P 105 = some false := by kernel_rfl
theorem t105b : bytesT TC.P 105 = some 8 := by kernel_rfl
theorem t105z : zeroC TC.P 105 = some .nilf := by kernel_rfl
theorem t105p : placesT TC.P 105 = none := by kernel_rfl
theorem t105k : sortT TC.P 105 = .func := by kernel_rfl
attribute [simp] t105s t105a t105b t105z t105p t105k
theorem t106s : sizeT TC.P 106 = some 1 := by kernel_rfl
theorem t106a : aggT TC.P 106 = some false := by kernel_rfl
theorem t106b : bytesT TC.P 106 = some 8 := by kernel_rfl
theorem t106z : zeroC TC.P 106 = some .nilf := by kernel_rfl
theorem t106p : placesT TC.P 106 = none := by kernel_rfl
theorem t106k : sortT TC.P 106 = .func := by kernel_rfl
attribute [simp] t106s t106a t106b t106z t106p t106k
theorem t107s : sizeT TC.P 107 = some 1 := by kernel_rfl
theorem t107a : aggT TC.P 107 = some false := by kernel_rfl
theorem t107b : bytesT TC.P 107 = some 4 := by kernel_rfl
theorem t107z : zeroC TC.P 107 = some (.int .u32 (0)) := by kernel_rfl
theorem t107p : placesT TC.P 107 = none := by kernel_rfl
theorem t107k : sortT TC.P 107 = (.int .u32) := by kernel_rfl
attribute [simp] t107s t107a t107b t107z t107p t107k
theorem t108s : sizeT TC.P 108 = some 1 := by kernel_rfl
theorem t108a : aggT TC.P 108 = some false := by kernel_rfl
theorem t108b : bytesT TC.P 108 = some 8 := by kernel_rfl
theorem t108z : zeroC TC.P 108 = some .nilf := by kernel_rfl
theorem t108p : placesT TC.P 108 = none := by kernel_rfl
theorem t108k : sortT TC.P 108 = .func := by kernel_rfl
attribute [simp] t108s t108a t108b t108z t108p t108k
theorem t109s : sizeT TC.P 109 = some 1 := by kernel_rfl
theorem t109a : aggT TC.P 109 = some false := by kernel_rfl
theorem t109b : bytesT TC.P 109 = some 8 := by kernel_rfl
theorem t109z : zeroC TC.P 109 = some (.int .u64 (0)) := by kernel_rfl
theorem t109p : placesT TC.P 109 = none := by kernel_rfl
theorem t109k : sortT TC.P 109 = (.int .u64) := by kernel_rfl
attribute [simp] t109s t109a t109b t109z t109p t109k
theorem t110s : sizeT TC.P 110 = some 1 := by kernel_rfl
theorem t110a : aggT TC.P 110 = some false := by kernel_rfl
theorem t110b : bytesT TC.P 110 = some 8 := by kernel_rfl
theorem t110z : zeroC TC.P 110 = some .nilf := by kernel_rfl
theorem t110p : placesT TC.P 110 = none := by kernel_rfl
theorem t110k : sortT TC.P 110 = .func := by kernel_rfl
attribute [simp] t110s t110a t110b t110z t110p t110k
theorem t111s : sizeT TC.P 111 = some 1 := by kernel_rfl
theorem t111a : aggT TC.P 111 = some false := by kernel_rfl
theorem t111b : bytesT TC.P 111 = some 8 := by kernel_rfl
theorem t111z : zeroC TC.P 111 = some .nilf := by kernel_rfl
theorem t111p : placesT TC.P 111 = none := by kernel_rfl
theorem t111k : sortT TC.P 111 = .func := by kernel_rfl
attribute [simp] t111s t111a t111b t111z t111p t111k
theorem t112s : sizeT TC.P 112 = some 1 := by kernel_rfl
theorem t112a : aggT TC.P 112 = some false := by kernel_rfl
theorem t112b : bytesT TC.P 112 = some 8 := by kernel_rfl
theorem t112z : zeroC TC.P 112 = some .nilf := by kernel_rfl
theorem t112p : placesT TC.P 112 = none := by kernel_rfl
theorem t112k : sortT TC.P 112 = .func := by kernel_rfl
attribute [simp] t112s t112a t112b t112z t112p t112k
theorem t113s : sizeT TC.P 113 = some 1 := by kernel_rfl
theorem t113a : aggT TC.P 113 = some false := by kernel_rfl
theorem t113b : bytesT TC.P 113 = some 8 := by kernel_rfl
theorem t113z : zeroC TC.P 113 = some .nilp := by kernel_rfl
theorem t113p : placesT TC.P 113 = none := by kernel_rfl
theorem t113k : sortT TC.P 113 = .ptr := by kernel_rfl
attribute [simp] t113s t113a t113b t113z t113p t113k
theorem t114s : sizeT TC.P 114 = some 1 := by kernel_rfl
theorem t114a : aggT TC.P 114 = some false := by kernel_rfl
theorem t114b : bytesT TC.P 114 = some 8 := by kernel_rfl
theorem t114z : zeroC TC.P 114 = some .nilf := by kernel_rfl
theorem t114p : placesT TC.P 114 = none := by kernel_rfl
theorem t114k : sortT TC.P 114 = .func := by kernel_rfl
attribute [simp] t114s t114a t114b t114z t114p t114k
theorem t115s : sizeT TC.P 115 = some 1 := by kernel_rfl
theorem t115a : aggT TC.P 115 = some false := by kernel_rfl
theorem t115b : bytesT TC.P 115 = some 8 := by kernel_rfl
theorem t115z : zeroC TC.P 115 = some .nilp := by kernel_rfl
theorem t115p : placesT TC.P 115 = none := by kernel_rfl
theorem t115k : sortT TC.P 115 = .ptr := by kernel_rfl
attribute [simp] t115s t115a t115b t115z t115p t115k
theorem t116s : sizeT TC.P 116 = some 1 := by kernel_rfl
theorem t116a : aggT TC.P 116 = some false := by kernel_rfl
theorem t116b : bytesT TC.P 116 = some 0 := by kernel_rfl
theorem t116p : placesT TC.P 116 = none := by kernel_rfl
theorem t116k : sortT TC.P 116 = .tuple := by kernel_rfl
attribute [simp] t116s t116a t116b t116p t116k
theorem t117s : sizeT TC.P 117 = some 1 := by kernel_rfl
theorem t117a : aggT TC.P 117 = some false := by kernel_rfl
theorem t117b : bytesT TC.P 117 = some 8 := by kernel_rfl
theorem t117z : zeroC TC.P 117 = some .nilf := by kernel_rfl
theorem t117p : placesT TC.P 117 = none := by kernel_rfl
theorem t117k : sortT TC.P 117 = .func := by kernel_rfl
attribute [simp] t117s t117a t117b t117z t117p t117k
theorem t118s : sizeT TC.P 118 = some 1 := by kernel_rfl
theorem t118a : aggT TC.P 118 = some false := by kernel_rfl
theorem t118b : bytesT TC.P 118 = some 8 := by kernel_rfl
theorem t118z : zeroC TC.P 118 = some .nilf := by kernel_rfl
theorem t118p : placesT TC.P 118 = none := by kernel_rfl
theorem t118k : sortT TC.P 118 = .func := by kernel_rfl
attribute [simp] t118s t118a t118b t118z t118p t118k
theorem t119s : sizeT TC.P 119 = some 4 := by kernel_rfl
theorem t119a : aggT TC.P 119 = some true := by kernel_rfl
theorem t119b : bytesT TC.P 119 = some 40 := by kernel_rfl
theorem t119z : zeroC TC.P 119 = some (.agg [.nilp, .nilp, .nilp, (.str ⟨#[]⟩)]) := by kernel_rfl
theorem t119p : placesT TC.P 119 = some [(0, 1), (1, 1), (2, 1), (3, 1)] := by kernel_rfl
theorem t119f0 : fldT TC.P 119 0 = some (0, 17) := by kernel_rfl
theorem t119f1 : fldT TC.P 119 1 = some (1, 17) := by kernel_rfl
theorem t119f2 : fldT TC.P 119 2 = some (2, 17) := by kernel_rfl
theorem t119f3 : fldT TC.P 119 3 = some (3, 9) := by kernel_rfl
theorem t119k : sortT TC.P 119 = .struct := by kernel_rfl
attribute [simp] t119s t119a t119b t119z t119p t119f0 t119f1 t119f2 t119f3 t119k
theorem t120s : sizeT TC.P 120 = some 4 := by kernel_rfl
theorem t120a : aggT TC.P 120 = some true := by kernel_rfl
theorem t120b : bytesT TC.P 120 = some 40 := by kernel_rfl
theorem t120z : zeroC TC.P 120 = some (.agg [.nilp, .nilp, .nilp, (.str ⟨#[]⟩)]) := by kernel_rfl
theorem t120p : placesT TC.P 120 = some [(0, 1), (1, 1), (2, 1), (3, 1)] := by kernel_rfl
theorem t120f0 : fldT TC.P 120 0 = some (0, 17) := by kernel_rfl
theorem t120f1 : fldT TC.P 120 1 = some (1, 17) := by kernel_rfl
theorem t120f2 : fldT TC.P 120 2 = some (2, 17) := by kernel_rfl
theorem t120f3 : fldT TC.P 120 3 = some (3, 9) := by kernel_rfl
theorem t120k : sortT TC.P 120 = .struct := by kernel_rfl
attribute [simp] t120s t120a t120b t120z t120p t120f0 t120f1 t120f2 t120f3 t120k
theorem t121s : sizeT TC.P 121 = some 0 := by kernel_rfl
theorem t121a : aggT TC.P 121 = some true := by kernel_rfl
theorem t121b : bytesT TC.P 121 = some 0 := by kernel_rfl
theorem t121r : arrT TC.P 121 = some (0, 16) := by kernel_rfl
theorem t121z : zeroC TC.P 121 = some (.agg []) := by kernel_rfl
theorem t121p : placesT TC.P 121 = none := by kernel_rfl
theorem t121k : sortT TC.P 121 = .array := by kernel_rfl
attribute [simp] t121s t121a t121b t121r t121z t121p t121k
theorem t122s : sizeT TC.P 122 = some 0 := by kernel_rfl
theorem t122a : aggT TC.P 122 = some true := by kernel_rfl
theorem t122b : bytesT TC.P 122 = some 0 := by kernel_rfl
theorem t122z : zeroC TC.P 122 = some (.agg []) := by kernel_rfl
theorem t122p : placesT TC.P 122 = some [(0, 0)] := by kernel_rfl
theorem t122f0 : fldT TC.P 122 0 = some (0, 121) := by kernel_rfl
theorem t122k : sortT TC.P 122 = .struct := by kernel_rfl
attribute [simp] t122s t122a t122b t122z t122p t122f0 t122k
theorem t123s : sizeT TC.P 123 = some 0 := by kernel_rfl
theorem t123a : aggT TC.P 123 = some true := by kernel_rfl
theorem t123b : bytesT TC.P 123 = some 0 := by kernel_rfl
theorem t123z : zeroC TC.P 123 = some (.agg []) := by kernel_rfl
theorem t123p : placesT TC.P 123 = some [(0, 0)] := by kernel_rfl
theorem t123f0 : fldT TC.P 123 0 = some (0, 121) := by kernel_rfl
theorem t123k : sortT TC.P 123 = .struct := by kernel_rfl
attribute [simp] t123s t123a t123b t123z t123p t123f0 t123k
theorem t124s : sizeT TC.P 124 = some 1 := by kernel_rfl
theorem t124a : aggT TC.P 124 = some false := by kernel_rfl
theorem t124b : bytesT TC.P 124 = some 8 := by kernel_rfl
theorem t124z : zeroC TC.P 124 = some .nilf := by kernel_rfl
theorem t124p : placesT TC.P 124 = none := by kernel_rfl
theorem t124k : sortT TC.P 124 = .func := by kernel_rfl
attribute [simp] t124s t124a t124b t124z t124p t124k
theorem t125s : sizeT TC.P 125 = some 1 := by kernel_rfl
theorem t125a : aggT TC.P 125 = some false := by kernel_rfl
theorem t125b : bytesT TC.P 125 = some 1 := by kernel_rfl
theorem t125z : zeroC TC.P 125 = some (.int .u8 (0)) := by kernel_rfl
theorem t125p : placesT TC.P 125 = none := by kernel_rfl
theorem t125k : sortT TC.P 125 = (.int .u8) := by kernel_rfl
attribute [simp] t125s t125a t125b t125z t125p t125k
theorem t126s : sizeT TC.P 126 = some 1 := by kernel_rfl
theorem t126a : aggT TC.P 126 = some false := by kernel_rfl
theorem t126b : bytesT TC.P 126 = some 1 := by kernel_rfl
theorem t126z : zeroC TC.P 126 = some (.int .u8 (0)) := by kernel_rfl
theorem t126p : placesT TC.P 126 = none := by kernel_rfl
theorem t126k : sortT TC.P 126 = (.int .u8) := by kernel_rfl
attribute [simp] t126s t126a t126b t126z t126p t126k
theorem t127s : sizeT TC.P 127 = some 1 := by kernel_rfl
theorem t127a : aggT TC.P 127 = some false := by kernel_rfl
theorem t127b : bytesT TC.P 127 = some 8 := by kernel_rfl
theorem t127z : zeroC TC.P 127 = some .nilf := by kernel_rfl
theorem t127p : placesT TC.P 127 = none := by kernel_rfl
theorem t127k : sortT TC.P 127 = .func := by kernel_rfl
attribute [simp] t127s t127a t127b t127z t127p t127k
theorem t128s : sizeT TC.P 128 = some 1 := by kernel_rfl
theorem t128a : aggT TC.P 128 = some false := by kernel_rfl
theorem t128b : bytesT TC.P 128 = some 8 := by kernel_rfl
theorem t128z : zeroC TC.P 128 = some .nilp := by kernel_rfl
theorem t128p : placesT TC.P 128 = none := by kernel_rfl
theorem t128k : sortT TC.P 128 = .ptr := by kernel_rfl
attribute [simp] t128s t128a t128b t128z t128p t128k
theorem t129s : sizeT TC.P 129 = some 1 := by kernel_rfl
theorem t129a : aggT TC.P 129 = some false := by kernel_rfl
theorem t129b : bytesT TC.P 129 = some 4 := by kernel_rfl
theorem t129z : zeroC TC.P 129 = some (.int .i32 (0)) := by kernel_rfl
theorem t129p : placesT TC.P 129 = none := by kernel_rfl
theorem t129k : sortT TC.P 129 = (.int .i32) := by kernel_rfl
attribute [simp] t129s t129a t129b t129z t129p t129k
theorem t130s : sizeT TC.P 130 = some 1 := by kernel_rfl
theorem t130a : aggT TC.P 130 = some false := by kernel_rfl
theorem t130b : bytesT TC.P 130 = some 4 := by kernel_rfl
theorem t130z : zeroC TC.P 130 = some (.int .i32 (0)) := by kernel_rfl
theorem t130p : placesT TC.P 130 = none := by kernel_rfl
theorem t130k : sortT TC.P 130 = (.int .i32) := by kernel_rfl
attribute [simp] t130s t130a t130b t130z t130p t130k
theorem t131s : sizeT TC.P 131 = some 11 := by kernel_rfl
theorem t131a : aggT TC.P 131 = some true := by kernel_rfl
theorem t131b : bytesT TC.P 131 = some 48 := by kernel_rfl
theorem t131z : zeroC TC.P 131 = some (.agg [(.int .u64 (0)), (.int .u64 (0)), (.int .u32 (0)), (.int .u8 (0)), (.int .u8 (0)), (.int .u8 (0)), (.int .u8 (0)), .nilf, .nilp, (.int .i32 (0)), (.int .i32 (0))]) := by kernel_rfl
theorem t131p : placesT TC.P 131 = some [(0, 1), (1, 1), (2, 1), (3, 1), (4, 1), (5, 1), (6, 1), (7, 1), (8, 1), (9, 1), (10, 1)] := by kernel_rfl
theorem t131f0 : fldT TC.P 131 0 = some (0, 12) := by kernel_rfl
theorem t131f1 : fldT TC.P 131 1 = some (1, 12) := by kernel_rfl
theorem t131f2 : fldT TC.P 131 2 = some (2, 107) := by kernel_rfl
theorem t131f3 : fldT TC.P 131 3 = some (3, 125) := by kernel_rfl
theorem t131f4 : fldT TC.P 131 4 = some (4, 5) := by kernel_rfl
theorem t131f5 : fldT TC.P 131 5 = some (5, 5) := by kernel_rfl
theorem t131f6 : fldT TC.P 131 6 = some (6, 126) := by kernel_rfl
theorem t131f7 : fldT TC.P 131 7 = some (7, 127) := by kernel_rfl
theorem t131f8 : fldT TC.P 131 8 = some (8, 128) := by kernel_rfl
theorem t131f9 : fldT TC.P 131 9 = some (9, 129) := by kernel_rfl
theorem t131f10 : fldT TC.P 131 10 = some (10, 130) := by kernel_rfl
theorem t131k : sortT TC.P 131 = .struct := by kernel_rfl
attribute [simp] t131s t131a t131b t131z t131p t131f0 t131f1 t131f2 t131f3 t131f4 t131f5 t131f6 t131f7 t131f8 t131f9 t131f10 t131k
theorem t132s : sizeT TC.P 132 = some 11 := by kernel_rfl
theorem t132a : aggT TC.P 132 = some true := by kernel_rfl
theorem t132b : bytesT TC.P 132 = some 48 := by kernel_rfl
theorem t132z : zeroC TC.P 132 = some (.agg [(.int .u64 (0)), (.int .u64 (0)), (.int .u32 (0)), (.int .u8 (0)), (.int .u8 (0)), (.int .u8 (0)), (.int .u8 (0)), .nilf, .nilp, (.int .i32 (0)), (.int .i32 (0))]) := by kernel_rfl
theorem t132p : placesT TC.P 132 = some [(0, 1), (1, 1), (2, 1), (3, 1), (4, 1), (5, 1), (6, 1), (7, 1), (8, 1), (9, 1), (10, 1)] := by kernel_rfl
theorem t132f0 : fldT TC.P 132 0 = some (0, 12) := by kernel_rfl
theorem t132f1 : fldT TC.P 132 1 = some (1, 12) := by kernel_rfl
theorem t132f2 : fldT TC.P 132 2 = some (2, 107) := by kernel_rfl
theorem t132f3 : fldT TC.P 132 3 = some (3, 125) := by kernel_rfl
theorem t132f4 : fldT TC.P 132 4 = some (4, 5) := by kernel_rfl
theorem t132f5 : fldT TC.P 132 5 = some (5, 5) := by kernel_rfl
theorem t132f6 : fldT TC.P 132 6 = some (6, 126) := by kernel_rfl
theorem t132f7 : fldT TC.P 132 7 = some (7, 127) := by kernel_rfl
theorem t132f8 : fldT TC.P 132 8 = some (8, 128) := by kernel_rfl
theorem t132f9 : fldT TC.P 132 9 = some (9, 129) := by kernel_rfl
theorem t132f10 : fldT TC.P 132 10 = some (10, 130) := by kernel_rfl
theorem t132k : sortT TC.P 132 = .struct := by kernel_rfl
attribute [simp] t132s t132a t132b t132z t132p t132f0 t132f1 t132f2 t132f3 t132f4 t132f5 t132f6 t132f7 t132f8 t132f9 t132f10 t132k
theorem t133s : sizeT TC.P 133 = some 1 := by kernel_rfl
theorem t133a : aggT TC.P 133 = some false := by kernel_rfl
theorem t133b : bytesT TC.P 133 = some 8 := by kernel_rfl
theorem t133z : zeroC TC.P 133 = some .nilp := by kernel_rfl
theorem t133p : placesT TC.P 133 = none := by kernel_rfl
theorem t133k : sortT TC.P 133 = .other := by kernel_rfl
attribute [simp] t133s t133a t133b t133z t133p t133k
end Go.Awp.R1

/- Marks, events: what the program's functions compute, in plain words. -/
namespace Go.Awp.B

/-- A mark. -/
structure Mk where
  o : Int
  w : Bool
  deriving DecidableEq, Inhabited
/-- An event. -/
structure Ev where
  t : Int
  m : List Mk
  deriving DecidableEq, Inhabited

/-- Marks put together: each object once. -/
def addMark (out : List Mk) (m : Mk) : List Mk :=
  match out.findIdx? (fun x => x.o == m.o) with
  | none => out ++ [m]
  | some i => out.modify i fun x => ⟨x.o, x.w || m.w⟩
def mergeM (l : List Mk) : List Mk := l.foldl addMark []

/-- Into a sorted row, read from its end. -/
def insRev : List Mk → Mk → List Mk
  | [], x => [x]
  | y :: r, x => if x.o < y.o then y :: insRev r x else x :: y :: r
def sortRev (l : List Mk) : List Mk := l.foldl insRev []
def sortM (l : List Mk) : List Mk := (sortRev l).reverse

def newE (t : Int) (l : List Mk) : Ev := ⟨t, sortM (mergeM l)⟩

theorem insRev_length (l : List Mk) (x : Mk) : (insRev l x).length = l.length + 1 := by
  induction l with
  | nil => rfl
  | cons y r ih => unfold insRev; split <;> simp [ih]
theorem foldl_insRev_length (l acc : List Mk) : (l.foldl insRev acc).length = acc.length + l.length := by
  induction l generalizing acc with
  | nil => rfl
  | cons y r ih => simp [ih, insRev_length]; omega
theorem sortM_length (l : List Mk) : (sortM l).length = l.length := by simp [sortM, sortRev, foldl_insRev_length]
theorem addMark_length (out : List Mk) (m : Mk) : (addMark out m).length ≤ out.length + 1 := by
  unfold addMark; split <;> simp
theorem foldl_addMark_length (l acc : List Mk) : (l.foldl addMark acc).length ≤ acc.length + l.length := by
  induction l generalizing acc with
  | nil => simp
  | cons y r ih => have := ih (addMark acc y); have := addMark_length acc y; simp; omega
theorem newE_length (t : Int) (l : List Mk) : (newE t l).m.length ≤ l.length := by
  have := foldl_addMark_length l []
  simpa [newE, sortM_length, mergeM] using this
end Go.Awp.B

/- Orders of events: what the functions of braid compute, in plain words. -/
namespace Go.Awp.B

def clash (a b : List Mk) : Bool := a.any fun x => b.any fun y => x.o == y.o && (x.w || y.w)
def depend (a b : Ev) : Bool := a.t == b.t || clash a.m b.m
def same (a b : Ev) : Bool := decide (a = b)

theorem fold_succ {α β : Type} (f : β → α → β) (a : β) {l : List α} {k : Nat} (h : k < l.length) : (l.take (k + 1)).foldl f a = f ((l.take k).foldl f a) l[k] := by
  rw [List.take_add_one, List.getElem?_eq_getElem h, List.foldl_append]; rfl

/-- Few events, of few marks. -/
structure Few (l : List Ev) : Prop where
  len : l.length ≤ 1000
  m : ∀ e ∈ l, e.m.length ≤ 1000

def at' (l : List Ev) (i : Nat) : Ev := l.getD i default
theorem at_get {l : List Ev} {i : Nat} (h : i < l.length) : l[i]? = some (at' l i) := by simp [at', h]
theorem at_eq {l : List Ev} {i : Nat} (h : i < l.length) : at' l i = l[i] := by simp [at', h]
theorem at_mem {l : List Ev} {i : Nat} (h : i < l.length) : at' l i ∈ l := by rw [at_eq h]; exact List.getElem_mem _
theorem Few.at {l : List Ev} (hl : Few l) {i : Nat} (h : i < l.length) : (at' l i).m.length ≤ 9223372036854775807 := by have := hl.m _ (at_mem h); omega

def firstP (l : List Ev) (i : Nat) : List Nat → Bool
  | [] => false
  | k :: r => if k = i then true else if depend (at' l k) (at' l i) = true then false else firstP l i r

def freeS (l : List Ev) (s : List Nat × List Nat) (i : Nat) : List Nat × List Nat :=
  (s.1 ++ [i], if s.1.all (fun k => !depend (at' l k) (at' l i)) = true then s.2 ++ [i] else s.2)
def free (l : List Ev) (left : List Nat) : List Nat := (left.foldl (freeS l) ([], [])).2

def better (l : List Ev) (b : Option Nat) (i : Nat) : Option Nat :=
  match b with
  | none => some i
  | some b => if (at' l i).t < (at' l b).t then some i else some b
/-- The program's choice, and the statement's. -/
def pickP (l : List Ev) (left : List Nat) : Option Nat := left.foldl (fun b i => if firstP l i left = true then better l b i else b) none
def pickL (l : List Ev) (left : List Nat) : Option Nat := (free l left).foldl (better l) none

def normalF (pk : List Nat → Option Nat) : Nat → List Nat → List Nat
  | 0, _ => []
  | n + 1, left => match pk left with
    | none => []
    | some b => b :: normalF pk n (left.filter (· != b))
def normalP (l : List Ev) : List Nat := normalF (pickP l) l.length (List.range l.length)
def normalL (l : List Ev) : List Nat := normalF (pickL l) l.length (List.range l.length)
def formP (l : List Ev) : List Ev := (normalP l).map (at' l)
def formL (l : List Ev) : List Ev := (normalL l).map (at' l)

/-! ### Small facts -/
theorem clash_comm (a b : List Mk) : clash a b = clash b a := by
  rw [Bool.eq_iff_iff]
  unfold clash
  simp only [List.any_eq_true]
  constructor
  · rintro ⟨x, hx, y, hy, h⟩; exact ⟨y, hy, x, hx, by simp at h ⊢; exact ⟨h.1.symm, h.2.symm⟩⟩
  · rintro ⟨x, hx, y, hy, h⟩; exact ⟨y, hy, x, hx, by simp at h ⊢; exact ⟨h.1.symm, h.2.symm⟩⟩
theorem depend_comm (a b : Ev) : depend a b = depend b a := by
  unfold depend; rw [clash_comm]; congr 1; rw [Bool.eq_iff_iff]; simp; exact eq_comm
theorem depend_self (a : Ev) : depend a a = true := by simp [depend]
theorem depend_thread {a b : Ev} (h : a.t = b.t) : depend a b = true := by simp [depend, h]

theorem firstP_append (l : List Ev) (i : Nat) (pre rest : List Nat) (h : i ∉ pre) : firstP l i (pre ++ i :: rest) = pre.all fun k => !depend (at' l k) (at' l i) := by
  induction pre with
  | nil => simp [firstP]
  | cons k pre ih =>
    simp only [List.mem_cons, not_or] at h
    simp only [List.cons_append, firstP, List.all_cons, if_neg (Ne.symm h.1)]
    cases depend (at' l k) (at' l i) <;> simp [ih h.2]

theorem free_fold (l : List Ev) (left : List Nat) (s : List Nat × List Nat) (hn : (s.1 ++ left).Nodup) : (left.foldl (freeS l) s).1 = s.1 ++ left ∧
    (left.foldl (freeS l) s).2 = s.2 ++ left.filter fun i => firstP l i (s.1 ++ left) := by
  induction left generalizing s with
  | nil => simp
  | cons i left ih =>
    have h1 := ih (freeS l s i) (by simpa [freeS] using hn)
    rw [List.foldl_cons, h1.1, h1.2]
    have hi : i ∉ s.1 := by
      have := List.nodup_append.1 hn
      intro hm; exact this.2.2 i hm i List.mem_cons_self rfl
    refine ⟨by simp [freeS], ?_⟩
    have e : (freeS l s i).1 ++ left = s.1 ++ i :: left := by simp [freeS]
    rw [e, List.filter_cons, firstP_append l i s.1 left hi]
    cases hh : s.1.all (fun k => !depend (at' l k) (at' l i)) <;> simp [freeS, hh]
theorem free_eq (l : List Ev) (left : List Nat) (hn : left.Nodup) : free l left = left.filter fun i => firstP l i left := by
  have := (free_fold l left ([], []) (by simpa using hn)).2
  simpa [free] using this
theorem pick_eq (l : List Ev) (left : List Nat) (hn : left.Nodup) : pickL l left = pickP l left := by
  unfold pickL pickP
  rw [free_eq l left hn, List.foldl_filter]
theorem filter_nodup {left : List Nat} (h : left.Nodup) (p : Nat → Bool) : (left.filter p).Nodup := h.sublist List.filter_sublist
theorem normal_eq (l : List Ev) : normalL l = normalP l := by
  unfold normalL normalP
  have : ∀ (n : Nat) (left : List Nat), left.Nodup → normalF (pickL l) n left = normalF (pickP l) n left := by
    intro n
    induction n with
    | zero => intros; rfl
    | succ n ih =>
      intro left hn
      unfold normalF
      rw [pick_eq l left hn]
      cases pickP l left with
      | none => rfl
      | some b => simp only; rw [ih _ (filter_nodup hn _)]
  exact this _ _ List.nodup_range
theorem form_eq (l : List Ev) : formL l = formP l := by unfold formL formP; rw [normal_eq]

/-- What is chosen: the lowest thread's, of those that are free. -/
theorem better_fold (l : List Ev) (c : List Nat) (b : Option Nat) : (∀ i, c.foldl (better l) b = some i → i ∈ c ∨ b = some i) ∧ (c.foldl (better l) b = none → c = [] ∧ b = none) ∧
    (∀ i, c.foldl (better l) b = some i → (∀ j ∈ c, (at' l i).t ≤ (at' l j).t) ∧ ∀ j, b = some j → (at' l i).t ≤ (at' l j).t) := by
  induction c generalizing b with
  | nil => refine ⟨fun i h => .inr h, fun h => ⟨rfl, h⟩, fun i h => ⟨by simp, fun j hj => ?_⟩⟩; simp at h; rw [h] at hj; cases hj; exact Int.le_refl _
  | cons x c ih =>
    obtain ⟨h1, h2, h3⟩ := ih (better l b x)
    have hb : ∃ y, better l b x = some y ∧ (y = x ∨ b = some y) ∧ (at' l y).t ≤ (at' l x).t ∧ ∀ j, b = some j → (at' l y).t ≤ (at' l j).t := by
      cases b with
      | none => exact ⟨x, rfl, .inl rfl, Int.le_refl _, by simp⟩
      | some b =>
        unfold better
        simp only
        split
        · rename_i h; exact ⟨x, rfl, .inl rfl, Int.le_refl _, fun j hj => by cases hj; omega⟩
        · rename_i h; exact ⟨b, rfl, .inr rfl, by omega, fun j hj => by cases hj; exact Int.le_refl _⟩
    obtain ⟨y, hy, hor, hle, hbj⟩ := hb
    simp only [List.foldl_cons]
    refine ⟨fun i hi => ?_, fun h => ?_, fun i hi => ?_⟩
    · rcases h1 i hi with h | h
      · exact .inl (List.mem_cons_of_mem _ h)
      · rw [hy] at h; cases h
        rcases hor with rfl | h
        · exact .inl List.mem_cons_self
        · exact .inr h
    · have := (h2 h).2; rw [hy] at this; cases this
    · obtain ⟨q1, q2⟩ := h3 i hi
      have := q2 y hy
      refine ⟨fun j hj => ?_, fun j hj => Int.le_trans this (hbj j hj)⟩
      rcases List.mem_cons.1 hj with rfl | hj
      · omega
      · exact q1 j hj
theorem pick_none (l : List Ev) {left : List Nat} (h : pickP l left = none) : left = [] := by
  unfold pickP at h
  rw [← List.foldl_filter] at h
  have := (better_fold l _ none).2.1 h
  cases left with
  | nil => rfl
  | cons x r =>
    have h2 := this.1
    rw [List.filter_cons] at h2
    simp [firstP] at h2
theorem pick_some (l : List Ev) {left : List Nat} {b : Nat} (h : pickP l left = some b) : b ∈ left ∧ firstP l b left = true ∧ ∀ j ∈ left, firstP l j left = true → (at' l b).t ≤ (at' l j).t := by
  unfold pickP at h
  rw [← List.foldl_filter] at h
  obtain ⟨h1, _, h3⟩ := better_fold l (left.filter fun i => firstP l i left) none
  have hm := h1 b h
  simp at hm
  exact ⟨hm.1, hm.2, fun j hj hf => (h3 b h).1 j (List.mem_filter.2 ⟨hj, hf⟩)⟩
theorem pickP_nil (l : List Ev) : pickP l [] = none := rfl
theorem normalF_nil (l : List Ev) (n : Nat) : normalF (pickP l) n [] = [] := by cases n <;> rfl
end Go.Awp.B

/- Marks and events: compared. -/
namespace Go.Awp.R1
open Go Go.Awp Go.Proofs

open Go.Awp.B
def encM (m : Mk) : V := .agg [.int .i64 m.o, .bool m.w]
def encE (e : Ev) : V := .agg [.int .i64 e.t, .slice (e.m.map encM)]


theorem clash_false {a b : List Mk} (h : ∀ k (hk : k < a.length), (b.any fun y => a[k].o == y.o && (a[k].w || y.w)) = false) : clash a b = false := by
  unfold clash
  rw [List.any_eq_false]
  intro x hx
  obtain ⟨k, hk, rfl⟩ := List.getElem_of_mem hx
  simpa using h k hk

/-- No slice is longer. -/
abbrev short {α : Type} (l : List α) : Prop := l.length ≤ 9223372036854775807

theorem Clash_ok (a b : List Mk) (ha : short a) (hb : short b) : APure TC 52 [.slice (a.map encM), .slice (b.map encM)] (.bool (clash a b)) := by
  refine afn_enter Try.func52 rfl rfl rfl (by decide) (Nat.le_of_ble_eq_true rfl) (by kernel_rfl) fun L K hL hR hN hP => ?_
  simp -implicitDefEqProofs
  refine loopJ (α := Nat) (fun k => k ≤ a.length ∧ ∀ i (hi : i < a.length), i < k → (b.any fun y => a[i].o == y.o && (a[i].w || y.w)) = false)
    (fun k => [(1, .slice (b.map encM)), (9, .slice (a.map encM)), (10, .int .i64 a.length), (11, .int .i64 k)]) (fun _ => []) (fun k => a.length - k) 0 (by simp -implicitDefEqProofs)
    (turn_weak (by simp -implicitDefEqProofs) (by simp -implicitDefEqProofs) (by simp -implicitDefEqProofs)) ?_
  rintro k L1 K1 ⟨hk, hpre⟩ hL1 _ hnext hex hrt - -
  simp -implicitDefEqProofs
  refine CondC.mk (fun h => ?_) (fun h => ?_)
  · have hlt : k < a.length := by simpa using h
    have hx : a[k]? = some a[k] := List.getElem?_eq_getElem hlt
    simp -implicitDefEqProofs [hx, encM]
    refine loopJ (α := Nat) (fun j => j ≤ b.length ∧ ∀ i (hi : i < b.length), i < j → (a[k].o == b[i].o && (a[k].w || b[i].w)) = false)
      (fun j => [(1, .slice (b.map encM)), (9, .slice (a.map encM)), (10, .int .i64 a.length), (11, .int .i64 k), (6, .ptr (L1, 0) 0), (15, .slice (b.map encM)), (16, .int .i64 b.length), (17, .int .i64 j)])
      (fun _ => [((L1, 0), .cells 77 [.int .i64 a[k].o, .bool a[k].w])]) (fun j => b.length - j) 0 (by simp -implicitDefEqProofs) (turn_weak (by simp -implicitDefEqProofs) (by simp -implicitDefEqProofs) (by simp -implicitDefEqProofs)) ?_
    rintro j L2 K2 ⟨hj, hpre2⟩ hL2 hk2 hnext2 hex2 hrt2 - -
    simp -implicitDefEqProofs at hk2
    simp -implicitDefEqProofs
    refine CondC.mk (fun hb1 => ?_) (fun hb1 => ?_)
    · have hlt2 : j < b.length := by simpa using hb1
      have hy : b[j]? = some b[j] := List.getElem?_eq_getElem hlt2
      rcases h1 : (a[k].o == b[j].o) <;> rcases h2 : a[k].w <;> rcases h3 : b[j].w <;> simp -implicitDefEqProofs [hy, encM, hk2, Ne.symm hk2, h1, h2, h3, wr1 j (by omega)]
      all_goals first
        | (refine hnext2 _ (j + 1) ⟨by omega, ?_⟩ (by omega) (turn_weak (by simp -implicitDefEqProofs) (by simp -implicitDefEqProofs [h2]) (by simp -implicitDefEqProofs))
           intro i hi hij
           by_cases e : i = j
           · subst e; simp -implicitDefEqProofs [h1, h2, h3]
           · exact hpre2 i hi (by omega))
        | (refine hrt2 _ ?_; refine hrt _ ?_; refine hR _ (.pure rfl ?_)
           rw [show clash a b = true from List.any_eq_true.2 ⟨a[k], List.getElem_mem _, List.any_eq_true.2 ⟨b[j], List.getElem_mem _, by simp -implicitDefEqProofs [h1, h2, h3]⟩⟩]
           exact .refl _)
    · refine hex2 _ _ ?_
      simp -implicitDefEqProofs [wr1 k (by omega)]
      refine hnext _ (k + 1) ⟨by omega, ?_⟩ (by omega) (turn_weak (by simp -implicitDefEqProofs) (by simp -implicitDefEqProofs) (by simp -implicitDefEqProofs))
      have hj2 : ¬ j < b.length := by simpa using hb1
      intro i hi hik
      by_cases e : i = k
      · subst e
        rw [List.any_eq_false]
        intro x hx
        obtain ⟨q, hq, rfl⟩ := List.getElem_of_mem hx
        simpa using hpre2 q hq (by omega)
      · exact hpre i hi (by omega)
  · refine hex _ _ ?_
    simp -implicitDefEqProofs
    refine hR _ (.pure rfl ?_)
    have hkn : ¬ k < a.length := by simpa using h
    rw [clash_false fun i hi => hpre i hi (by omega)]
    exact .refl _

theorem Depend_ok (a b : Ev) (ha : short a.m) (hb : short b.m) : APure TC 27 [encE a, encE b] (.bool (depend a b)) := by
  refine afn_enter Try.func27 rfl rfl rfl (by decide) (Nat.le_of_ble_eq_true rfl) (by kernel_rfl) fun L K hL hR hN hP => ?_
  have hc := Clash_ok a.m b.m ha hb
  rcases h1 : (a.t == b.t) <;> simp -implicitDefEqProofs [encE, h1]
  · refine CallF.pure hc (by decide) ?_
    simp -implicitDefEqProofs
    refine hR _ (.pure rfl ?_)
    simp -implicitDefEqProofs [depend, h1]
    exact .refl _
  · refine hR _ (.pure rfl ?_)
    simp -implicitDefEqProofs [depend, h1]
    exact .refl _

theorem take_ext {α : Type} {a b : List α} (hl : a.length = b.length) (h : ∀ i (h1 : i < a.length) (h2 : i < b.length), a[i] = b[i]) : a = b := List.ext_getElem hl h

theorem EqMarks_ok (a b : List Mk) (ha : short a) (hb : short b) : APure TC 53 [.slice (a.map encM), .slice (b.map encM)] (.bool (decide (a = b))) := by
  refine afn_enter Try.func53 rfl rfl rfl (by decide) (Nat.le_of_ble_eq_true rfl) (by kernel_rfl) fun L K hL hR hN hP => ?_
  have hne : ((a.length : Int) != b.length) = !decide (a.length = b.length) := by simp -implicitDefEqProofs [bne, BEq.beq, Int.ofNat_inj]
  by_cases hl : a.length = b.length <;> simp -implicitDefEqProofs [hne, hl]
  · refine loopJ (α := Nat) (fun k => k ≤ a.length ∧ ∀ i (h1 : i < a.length) (h2 : i < b.length), i < k → a[i] = b[i])
      (fun k => [(0, .slice (a.map encM)), (1, .slice (b.map encM)), (12, .int .i64 a.length), (13, .int .i64 k)]) (fun _ => []) (fun k => a.length - k) 0 (by simp -implicitDefEqProofs)
      (turn_weak (by simp -implicitDefEqProofs [hl]) (by simp -implicitDefEqProofs) (by simp -implicitDefEqProofs)) ?_
    rintro k L1 K1 ⟨hk, hpre⟩ hL1 _ hnext hex hrt - -
    simp -implicitDefEqProofs
    refine CondC.mk (fun h => ?_) (fun h => ?_)
    · have hlt : k < a.length := by simpa using h
      have hx : a[k]? = some a[k] := List.getElem?_eq_getElem hlt
      have hy : b[k]? = some b[k] := List.getElem?_eq_getElem (hl ▸ hlt)
      have hiff : a[k] = b[k] ↔ a[k].o = b[k].o ∧ a[k].w = b[k].w := by
        constructor
        · intro e; rw [e]; exact ⟨rfl, rfl⟩
        · rintro ⟨e1, e2⟩; cases ha : a[k]; cases hb : b[k]; simp_all
      rcases h1 : (a[k].o == b[k].o) <;> rcases h2 : (a[k].w == b[k].w) <;> simp -implicitDefEqProofs [hx, hy, encM, h1, h2, wr1 k (by omega)]
      all_goals first
        | (refine hnext _ (k + 1) ⟨by omega, ?_⟩ (by omega) (turn_weak (by simp -implicitDefEqProofs) (by simp -implicitDefEqProofs) (by simp -implicitDefEqProofs))
           intro i q1 q2 hik
           by_cases e : i = k
           · subst e; exact hiff.2 ⟨by simpa using h1, by simpa using h2⟩
           · exact hpre i q1 q2 (by omega))
        | (refine hrt _ ?_; refine hR _ (.pure rfl ?_)
           have : ¬ a = b := fun e => by
             have e2 : a[k] = b[k] := by simp -implicitDefEqProofs [e]
             have := hiff.1 e2
             simp -implicitDefEqProofs [this.1, this.2] at h1 h2
           simp -implicitDefEqProofs [this]
           exact .refl _)
    · refine hex _ _ ?_
      simp -implicitDefEqProofs
      refine hR _ (.pure rfl ?_)
      have hkn : ¬ k < a.length := by simpa using h
      have : a = b := take_ext hl fun i q1 q2 => hpre i q1 q2 (by omega)
      simp -implicitDefEqProofs [this]
      exact .refl _
  · refine hR _ (.pure rfl ?_)
    have : ¬ a = b := fun e => hl (by rw [e])
    simp -implicitDefEqProofs [this]
    exact .refl _


theorem Same_ok (a b : Ev) (ha : short a.m) (hb : short b.m) : APure TC 29 [encE a, encE b] (.bool (same a b)) := by
  refine afn_enter Try.func29 rfl rfl rfl (by decide) (Nat.le_of_ble_eq_true rfl) (by kernel_rfl) fun L K hL hR hN hP => ?_
  have hc := EqMarks_ok a.m b.m ha hb
  have hiff : a = b ↔ a.t = b.t ∧ a.m = b.m := by cases a; cases b; simp -implicitDefEqProofs
  rcases h1 : (a.t == b.t) <;> simp -implicitDefEqProofs [encE, h1]
  · refine hR _ (.pure rfl ?_)
    have : ¬ a.t = b.t := by simpa using h1
    simp -implicitDefEqProofs [same, hiff, this]
    exact .refl _
  · refine CallF.pure hc (by decide) ?_
    simp -implicitDefEqProofs
    refine hR _ (.pure rfl ?_)
    have : a.t = b.t := by simpa using h1
    simp -implicitDefEqProofs [same, hiff, this]
    exact .refl _
end Go.Awp.R1

/- Marks and events: made. -/
namespace Go.Awp.R1
open Go Go.Awp Go.Proofs Go.Awp.B

structure Tch where
  o : Int
  w : Bool
def encT (x : Tch) : V := .agg [.int .i8 x.o, .bool x.w]
structure EE where
  t : Nat
  m : List Tch
def encEE (x : EE) : V := .agg [.int .u8 x.t, .slice (x.m.map encT)]

theorem map_take_succ {α β : Type} (f : α → β) {l : List α} {k : Nat} (h : k < l.length) : (l.take (k + 1)).map f = (l.take k).map f ++ [f l[k]] := by
  rw [List.take_add_one, List.getElem?_eq_getElem h, List.map_append]; rfl

def marks (l : List Tch) : List Mk := l.map fun x => ⟨IntKind.i64.wrap x.o, x.w⟩

theorem Marks_ok (l : List Tch) (hl : l.length ≤ 1000) : APure TC 46 [.slice (l.map encT)] (.slice ((marks l).map encM)) := by
  refine afn_enter Try.func46 rfl rfl rfl (by decide) (Nat.le_of_ble_eq_true rfl) (by kernel_rfl) fun L K hL hR hN hP => ?_
  simp -implicitDefEqProofs
  refine wait_turn (turn_thaw (t := 3) (el := 77) (sz := 2) (by simp -implicitDefEqProofs) (by decide)) ?_
  refine loopJ (α := Nat) (fun k => k ≤ l.length)
    (fun k => [(6, .slice (l.map encT)), (7, .int .i64 l.length), (8, .int .i64 k), (3, .vec (L, 0) k)]) (fun k => [((L, 0), .vec 77 2 ((marks (l.take k)).map encM) k true)]) (fun k => l.length - k) 0 (by simp -implicitDefEqProofs)
    (turn_weak (by simp -implicitDefEqProofs) (by simp -implicitDefEqProofs [marks]) (by simp -implicitDefEqProofs)) ?_
  rintro k L1 K1 hk hL1 hk1 hnext hex hrt - -
  simp -implicitDefEqProofs at hL1 hk1
  simp -implicitDefEqProofs
  refine CondC.mk (fun h => ?_) (fun h => ?_)
  · have hlt : k < l.length := by simpa using h
    have hx : l[k]? = some l[k] := List.getElem?_eq_getElem hlt
    have hlen : (marks (l.take k)).length = k := by simp -implicitDefEqProofs [marks]; omega
    have c1 : k ≤ 9223372036854775806 := by omega
    have c2 : (k + 1) * 16 ≤ 140737488355328 := by omega
    have hs : marks (l.take (k + 1)) = marks (l.take k) ++ [⟨IntKind.i64.wrap l[k].o, l[k].w⟩] := map_take_succ _ hlt
    simp -implicitDefEqProofs [hx, encT, wr1 k (by omega), hlen, hk1, Ne.symm hk1, c1, c2]
    exact hnext _ (k + 1) (by omega) (by omega) (turn_weak (by simp -implicitDefEqProofs) (by simp -implicitDefEqProofs [hs, encM]) (by simp -implicitDefEqProofs))
  · refine hex _ _ ?_
    simp -implicitDefEqProofs
    have hkn : k = l.length := by have : ¬ k < l.length := by simpa using h
                                  omega
    subst hkn
    exact hR _ (.pure rfl (.vec (t := 77) (s := 2) (es := (marks l).map encM) (wr := true) (by simp -implicitDefEqProofs) (frzL_refl _)))
end Go.Awp.R1

/- Looking for an element. -/
namespace Go.Awp.R1
open Go Go.Awp Go.Proofs Go.Awp.B

/-- The place of the first one, or -1. -/
def ix {α : Type} (l : List α) (p : α → Bool) : Int := match l.findIdx? p with | some i => (i : Int) | none => -1

theorem ix_some {α : Type} {l : List α} {p : α → Bool} {k : Nat} (h : k < l.length) (hp : p l[k] = true) (hn : ∀ i (hi : i < l.length), i < k → p l[i] = false) : ix l p = k := by
  unfold ix
  rw [List.findIdx?_eq_some_iff_getElem.2 ⟨h, hp, fun j hj => by simpa using hn j (by omega) hj⟩]
theorem ix_none {α : Type} {l : List α} {p : α → Bool} (hn : ∀ i (hi : i < l.length), p l[i] = false) : ix l p = -1 := by
  unfold ix
  rw [List.findIdx?_eq_none_iff.2 fun x hx => by obtain ⟨k, hk, rfl⟩ := List.getElem_of_mem hx; exact hn k hk]

theorem IndexMark_ok (l : List Mk) (p : Mk → Bool) (fid : FuncId) (cap : List V) (hl : short l) (h : ∀ m ∈ l, APure TC fid (encM m :: cap) (.bool (p m))) : APure TC 59 [.slice (l.map encM), .func (.func fid) [] cap] (.int .i64 (ix l p)) := by
  refine afn_enter Try.func59 rfl rfl rfl (by decide) (Nat.le_of_ble_eq_true rfl) (by kernel_rfl) fun L K hL hR hN hP => ?_
  simp -implicitDefEqProofs
  refine loopJ (α := Nat) (fun k => k ≤ l.length ∧ ∀ i (hi : i < l.length), i < k → p l[i] = false)
    (fun k => [(0, .slice (l.map encM)), (1, .func (.func fid) [] cap), (7, .int .i64 l.length), (8, .int .i64 k)]) (fun _ => []) (fun k => l.length - k) 0 (by simp -implicitDefEqProofs)
    (turn_weak (by simp -implicitDefEqProofs) (by simp -implicitDefEqProofs) (by simp -implicitDefEqProofs)) ?_
  rintro k L1 K1 ⟨hk, hpre⟩ hL1 _ hnext hex hrt - -
  simp -implicitDefEqProofs
  refine CondC.mk (fun hb => ?_) (fun hb => ?_)
  · have hlt : k < l.length := by simpa using hb
    have hx : l[k]? = some l[k] := List.getElem?_eq_getElem hlt
    simp -implicitDefEqProofs [hx, encM]
    refine CallF.pure (h l[k] (List.getElem_mem _)) (by decide) ?_
    rcases hp : p l[k] <;> simp -implicitDefEqProofs [wr1 k (by omega)]
    · refine hnext _ (k + 1) ⟨by omega, fun i hi hik => ?_⟩ (by omega) (turn_weak (by simp -implicitDefEqProofs) (by simp -implicitDefEqProofs) (by simp -implicitDefEqProofs))
      by_cases e : i = k
      · subst e; exact hp
      · exact hpre i hi (by omega)
    · refine hrt _ ?_
      refine hR _ (.pure rfl ?_)
      rw [ix_some hlt hp hpre]
      exact .refl _
  · refine hex _ _ ?_
    simp -implicitDefEqProofs
    refine hR _ (.pure rfl ?_)
    have hkn : ¬ k < l.length := by simpa using hb
    rw [ix_none fun i hi => hpre i hi (by omega)]
    exact .refl _

theorem New1_ok (m x : Mk) : APure TC 60 [encM x, .rptr (encM m)] (.bool (x.o == m.o)) := by
  refine afn_enter Try.func60 rfl rfl rfl (by decide) (Nat.le_of_ble_eq_true rfl) (by kernel_rfl) fun L K hL hR hN hP => ?_
  simp -implicitDefEqProofs [encM]
  refine hR _ (.pure rfl ?_)
  exact .refl _

def cmpI (a b : Int) : Int := if a < b then -1 else if b < a then 1 else 0

theorem isNaN_ok (a : Int) : APure TC 69 [.int .i64 a] (.bool false) := by
  refine afn_enter Try.func69 rfl rfl rfl (by decide) (Nat.le_of_ble_eq_true rfl) (by kernel_rfl) fun L K hL hR hN hP => ?_
  simp -implicitDefEqProofs
  refine hR _ (.pure rfl ?_)
  exact .refl _

theorem Compare_ok (a b : Int) : APure TC 63 [.int .i64 a, .int .i64 b] (.int .i64 (cmpI a b)) := by
  refine afn_enter Try.func63 rfl rfl rfl (by decide) (Nat.le_of_ble_eq_true rfl) (by kernel_rfl) fun L K hL hR hN hP => ?_
  simp -implicitDefEqProofs
  refine CallF.pure (isNaN_ok a) (by decide) ?_
  simp -implicitDefEqProofs
  refine CallF.pure (isNaN_ok b) (by decide) ?_
  simp -implicitDefEqProofs
  refine CondC.mk (fun hb => ?_) (fun hb => ?_)
  · simp -implicitDefEqProofs
    refine hR _ (.pure rfl ?_)
    have : a < b := by simpa using hb
    simp -implicitDefEqProofs [cmpI, this]
    exact .refl _
  · simp -implicitDefEqProofs
    have h1 : ¬ a < b := by simpa using hb
    refine CondC.mk (fun hb => ?_) (fun hb => ?_)
    · simp -implicitDefEqProofs
      refine hR _ (.pure rfl ?_)
      have : b < a := by simpa using hb
      simp -implicitDefEqProofs [cmpI, this, h1]
      exact .refl _
    · simp -implicitDefEqProofs
      refine hR _ (.pure rfl ?_)
      have : ¬ b < a := by simpa using hb
      simp -implicitDefEqProofs [cmpI, this, h1]
      exact .refl _

theorem New2_ok (a b : Mk) : APure TC 62 [encM a, encM b] (.int .i64 (cmpI a.o b.o)) := by
  refine afn_enter Try.func62 rfl rfl rfl (by decide) (Nat.le_of_ble_eq_true rfl) (by kernel_rfl) fun L K hL hR hN hP => ?_
  simp -implicitDefEqProofs [encM]
  refine CallF.pure (Compare_ok a.o b.o) (by decide) ?_
  simp -implicitDefEqProofs
  refine hR _ (.pure rfl ?_)
  exact .refl _
end Go.Awp.R1

/- Marks are sorted. -/
namespace Go.Awp.R1
open Go Go.Awp Go.Proofs Go.Awp.B

theorem wrap_u8 {n : Int} (h1 : 0 ≤ n) (h2 : n ≤ 255) : IntKind.u8.wrap n = n := by
  unfold IntKind.wrap
  simp -implicitDefEqProofs [IntKind.signed, IntKind.bits]
  omega
theorem wrap_u64 {n : Int} (h1 : 0 ≤ n) (h2 : n ≤ 18446744073709551615) : IntKind.u64.wrap n = n := by
  unfold IntKind.wrap
  simp -implicitDefEqProofs [IntKind.signed, IntKind.bits]
  omega
theorem byteAt {S : ByteArray} {i : Nat} (h : i < S.size) : S[i]? = some S[i] := by simp -implicitDefEqProofs [h]

set_option maxRecDepth 100000 in
theorem Len64_ok (n : Nat) (hn : n ≤ 12) : APureX TC 79 [.int .u64 n] fun v => ∃ k, v = .int .i64 k := by
  have h : n = 0 ∨ n = 1 ∨ n = 2 ∨ n = 3 ∨ n = 4 ∨ n = 5 ∨ n = 6 ∨ n = 7 ∨ n = 8 ∨ n = 9 ∨ n = 10 ∨ n = 11 ∨ n = 12 := by omega
  rcases h with rfl | rfl | rfl | rfl | rfl | rfl | rfl | rfl | rfl | rfl | rfl | rfl | rfl
  all_goals
    refine afn_enter Try.func79 rfl rfl rfl (by decide) (Nat.le_of_ble_eq_true rfl) (by kernel_rfl) fun L K hL hR hN hP => ?_
    simp -implicitDefEqProofs [atV, wrap_u8]
    rw [byteAt (Nat.le_of_ble_eq_true (by kernel_rfl))]
    simp only [Option.map_some]
    generalize UInt8.toNat _ = b
    simp -implicitDefEqProofs
    exact hR _ (.pureX rfl (.refl _) ⟨_, rfl⟩)

theorem Len_ok (n : Nat) (hn : n ≤ 12) : APureX TC 68 [.int .u64 n] fun v => ∃ k, v = .int .i64 k := by
  refine afn_enter Try.func68 rfl rfl rfl (by decide) (Nat.le_of_ble_eq_true rfl) (by kernel_rfl) fun L K hL hR hN hP => ?_
  simp -implicitDefEqProofs
  refine CallF.pureX (Len64_ok n hn) (by decide) rfl ?_
  rintro _ ⟨k, rfl⟩
  simp -implicitDefEqProofs
  exact hR _ (.pureX rfl (.refl _) ⟨_, rfl⟩)
end Go.Awp.R1
