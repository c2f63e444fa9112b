/- AWP, text 12b: pieces of slices of one's own. -/
import Derived.Test.YtkfclhmegbddmaaX1
import Derived.Stop.SameAnswer
import Derived.Deep.LoopGhost
import Derived.ScopeJumps
set_option linter.all false
namespace Go.Awp
open Go

/-- Elements written over others. -/
def overL (es : List V) (p : Nat) (ys : List V) : List V := es.take p ++ ys ++ es.drop (p + ys.length)

/-- The window that a value is: name, version, from, how many. -/
def winV (get : Id → Option Blk) : V → Option (Id × Nat × Nat)
  | .vec id ver => (get id).bind fun | .vec _ _ es ver' _ => if ver = ver' then some (id, 0, es.length) else none | _ => none
  | .vsub id ver s lo len => (get id).bind fun | .vec _ s' es ver' _ => if ver = ver' ∧ s = s' ∧ lo + len ≤ es.length then some (id, lo, len) else none | _ => none
  | _ => none

def subOp (P : Program) (lk : Operand → Option V) (get : Id → Option Blk) : Op → Option (V × Upd)
  | .slice t x lo hi mx => (lk x).bind fun v => (winV get v).bind fun (id, b, len) => (elemT P t).bind fun el => (sizeT P el).bind fun n => (get id).bind fun
    | .vec _ s es ver _ => (bndV 0 (lo.map lk)).bind fun l => (bndV len (hi.map lk)).bind fun h =>
        if s = n then match mx with
          | none => if l ≤ h ∧ b + h ≤ es.length then some (.vsub id ver s (b + l) (h - l), .none) else none
          | some m => (bndV 0 (some (lk m))).bind fun m => if hi.isSome ∧ l ≤ h ∧ h ≤ m ∧ b + m ≤ es.length then some (.any, .none) else none
        else none
    | _ => none
  | .indexAddr t x i => (lk x).bind fun v => (lk i).bind fun k => match v, k with
    | .vsub id ver z lo len, .int _ k => (winV get v).bind fun _ => (elemT P t).bind fun el => (sizeT P el).bind fun n =>
        if z = n ∧ 0 ≤ k ∧ k.toNat < len then some (.eptr id ver z (lo + k.toNat) 0, .none) else none
    | _, _ => none
  | .call c => match c.callee, c.args.toList, c.argTypes.toList with
    | .builtin .len, [x], [t] => (lk x).bind fun
      | .vsub id ver z lo len => if sortT P t = .slice then (winV get (.vsub id ver z lo len)).map fun _ => (.int .i64 len, .none) else none
      | _ => none
    | .builtin .clear, [x], [t] => (lk x).bind fun v => (winV get v).bind fun (id, b, len) => (elemT P t).bind fun el => (sizeT P el).bind fun n => (zeroC P el).bind fun z => (get id).bind fun
      | .vec t' s es ver wr => if s = n ∧ z.cells.length = n ∧ wr = true then some (.tup [], if len = 0 then .none else .put id (.vec t' s (overL es b (List.replicate len z)) ver true)) else none
      | _ => none
    | .builtin .append, [s, x], [t, tx] => (lk s).bind fun
      | .vsub id ver z lo len => (lk x).bind fun x => (winV get (.vsub id ver z lo len)).bind fun _ => (elemT P t).bind fun el => (sizeT P el).bind fun n => (srcV P get n tx x).bind fun xs => (get id).bind fun
        | .vec t' s es _ wr => if s = n ∧ z = n ∧ wr = true ∧ lo + len + xs.length ≤ es.length then
            some (.vsub id ver z lo (len + xs.length), if xs.length = 0 then .none else .put id (.vec t' s (overL es (lo + len) xs) ver true)) else none
        | _ => none
      | _ => none
    | .builtin .copy, [d, s], [t, ts] => if sortT P ts = .slice then (lk d).bind fun v => (lk s).bind fun x => (winV get v).bind fun (id, b, len) => (elemT P t).bind fun el => (sizeT P el).bind fun n => (srcV P get n ts x).bind fun xs => (get id).bind fun
      | .vec t' s es ver wr => if s = n ∧ wr = true then
          some (.int .i64 (min xs.length len : Nat), if (xs.take len).length = 0 then .none else .put id (.vec t' s (overL es b (xs.take len)) ver true)) else none
      | _ => none
      else none
    | _, _, _ => none
  | _ => none

section
variable {P : Program} {lk : Operand → Option V} {σ : Store} {j : Id} {E : Amb}

theorem overL_length {es ys : List V} {p : Nat} (h : p + ys.length ≤ es.length) : (overL es p ys).length = es.length := by
  unfold overL; simp; omega

theorem overL_flat {es ys : List V} {p s : Nat} (hu : ∀ e ∈ es, e.cells.length = s) (hy : ∀ e ∈ ys, e.cells.length = s) :
    (overL es p ys).flatMap V.cells = (es.flatMap V.cells).take (p * s) ++ ys.flatMap V.cells ++ (es.flatMap V.cells).drop (p * s + ys.length * s) := by
  unfold overL
  rw [List.flatMap_append, List.flatMap_append, flat_take hu, flat_drop hu, Nat.add_mul]

/-- What a window is, in memory. -/
structure Win (E : Amb) (t : TypeId) (s : Nat) (es : List V) (wr : Bool) (id : Id) (ver lo len : Nat) (cx : Value) : Prop where
  spec : ∃ a c b c0 xs, cx = .slice a len c ∧ E.ι id = .vec (.slice b es.length c0) ver ∧ lo + len ≤ es.length ∧ es.length ≤ c0 ∧ c = c0 - lo ∧ (lo < c0 → a = b.map (·.add (lo * s))) ∧
    Owns E.w t s (.slice b es.length c0) es.length xs ∧ RepL E (es.flatMap V.cells) xs ∧ (∀ e ∈ es, e.cells.length = s ∧ e.ok) ∧ 0 < s ∧ ∀ q, hblk (.slice b es.length c0) = some q → ∀ o, E.I q o → wr = false ∧ o < es.length * s

theorem win_sound {v : V} {cx : Value} {id : Id} {lo len : Nat} (h : winV σ.get v = some (id, lo, len)) (hs : StoreRel E σ) (hx : Rep E v cx) :
    ∃ t s es ver wr, σ.get id = some (.vec t s es ver wr) ∧ Win E t s es wr id ver lo len cx := by
  unfold winV at h
  split at h
  · rename_i id' ver
    obtain ⟨k, hk, h2⟩ := Option.bind_eq_some_iff.1 h
    split at h2
    · rename_i t s es ver' wr
      split at h2
      · rename_i e
        subst e
        cases h2
        obtain ⟨hv, xs, eι, rfl, hown, hr, hes, h0, hI⟩ := vec_inv hx (hs.blk _ _ (Store.get_mem hk))
        obtain ⟨b, c0, e⟩ := hown.shape
        subst e
        refine ⟨t, s, es, ver, wr, hk, ⟨b, c0, b, c0, xs, rfl, eι, by omega, ?_, by omega, fun hc => ?_, hown, hr, hes, h0, hI⟩⟩
        · rcases hown.2 with ⟨a, e1, e2⟩ | ⟨g, cap, cur, _, e1, _, hc, _⟩
          · omega
          · cases e1; exact hc
        · rcases hown.2 with ⟨a, e1, e2⟩ | ⟨g, cap, cur, _, e1, _, hc, _⟩
          · injection e1 with _ _ e5; omega
          · cases e1; simp [Addr.add_mid]
      · cases h2
    · cases h2
  · rename_i id' ver s lo' len'
    obtain ⟨k, hk, h2⟩ := Option.bind_eq_some_iff.1 h
    split at h2
    · rename_i t s' es ver' wr
      split at h2
      · rename_i e
        obtain ⟨rfl, rfl, hle⟩ := e
        cases h2
        obtain ⟨hv, xs, eι, hown, hr, hes, h0, hI⟩ := hs.blk _ _ (Store.get_mem hk)
        cases hx with
        | vsub h1 h2 h3 =>
          rw [eι] at h1; cases h1
          obtain ⟨b, n, c0, e0, q1, q2, q3, q4⟩ := h3 rfl
          subst e0
          have hn : n = es.length := by
            rcases hown.2 with ⟨a, e1, e2⟩ | ⟨g, cap, cur, _, e1, _⟩
            · cases e1; exact e2.symm
            · cases e1; rfl
          subst hn
          exact ⟨t, s, es, ver, wr, hk, ⟨_, _, b, c0, xs, rfl, eι, hle, q2, q3, q4, hown, hr, hes, h0, hI⟩⟩
      · cases h2
    · cases h2
  · cases h

/-- Elements of one's own slice, written over. -/
theorem write_at {id : Id} {t : TypeId} {s : Nat} {es ys : List V} {ver : Nat} {b : Option Addr} {c0 p : Nat} {xs news : List Value} (hst : StoreRel E σ) (hm : (id, .vec t s es ver true) ∈ σ) (eι : E.ι id = .vec (.slice b es.length c0) ver)
    (hown : Owns E.w t s (.slice b es.length c0) es.length xs) (hr : RepL E (es.flatMap V.cells) xs) (hes : ∀ e ∈ es, e.cells.length = s ∧ e.ok) (h0 : 0 < s) (hI : ∀ q, hblk (.slice b es.length c0) = some q → ∀ o, E.I q o → true = false ∧ o < es.length * s)
    (hp : p + ys.length ≤ es.length) (hy : 0 < ys.length) (hn : RepL E (ys.flatMap V.cells) news) (hys : ∀ e ∈ ys, e.cells.length = s ∧ e.ok) :
    ∃ g w', b = some ⟨g, 0, none⟩ ∧ 0 < c0 ∧ (storeCells (⟨g, p * s, none⟩ : Addr) news).run P E.w = .ok () w' ∧
      ∃ E', E'.w = w' ∧ E'.ι id = .vec (.slice b es.length c0) ver ∧ StoreRel E' (σ.put id (.vec t s (overL es p ys) ver true)) ∧ Grow E σ E' (σ.put id (.vec t s (overL es p ys) ver true)) ∧ ∀ i, E.ι i = .unborn → E'.ι i = .unborn := by
  have hyc : ∀ e ∈ ys, e.cells.length = s := fun e he => (hys e he).1
  have hec : ∀ e ∈ es, e.cells.length = s := fun e he => (hes e he).1
  have hnl : news.length = ys.length * s := by rw [hn.length, flat_length hyc]
  have hsc : ∀ c ∈ ys.flatMap V.cells, c.scalar = true := fun c hm => by
    obtain ⟨e, he, hm'⟩ := List.mem_flatMap.1 hm
    exact (hys e he).2 c hm'
  rcases hown.2 with ⟨a, e1, e2⟩ | ⟨g, cap, cur, hc0, e1, hg, hcap, hmax, hcs, htk⟩
  · omega
  · cases e1
    have hmul : (p + ys.length) * s ≤ es.length * s := Nat.mul_le_mul_right _ hp
    have hmul2 : es.length * s ≤ c0 * s := Nat.mul_le_mul_right _ hcap
    rw [Nat.add_mul] at hmul
    have hst' := run_storeCells_at (P := P) g (p * s) t news 0 cur E.w hg (by simp only [Nat.add_zero]; rw [hcs]; omega) (hn.scalars hsc)
    simp only [Nat.add_zero] at hst'
    have hgr := setRow_heap E.w g cur (cur.toList.take (p * s) ++ news ++ cur.toList.drop (p * s + news.length)).toArray t (0, 0) hg
    have hnoI : ∀ o, ¬ E.I g o := fun o hi => by
      have := (hI g (by simp [hblk]; omega) o hi).1
      cases this
    have key := write_vec hst hm (.slice (some ⟨g, 0, none⟩) es.length c0) ver (E.w.setRow g (cur.toList.take (p * s) ++ news ++ cur.toList.drop (p * s + news.length)).toArray) (k' := .vec t s (overL es p ys) ver true)
      (by rw [eι]; exact Loc.Le.refl _) rfl rfl rfl (Nat.le_of_eq (setRow_size _ _ _).symm) (fun k hk hne => setRow_ne _ _ _ _ fun e => hne (by rw [eι, e]; simp [Loc.block, hblk]; omega))
      (fun q hq o hi => by
        rw [eι] at hq
        have : q = g := by simp [Loc.block, hblk] at hq; exact hq.2.symm
        subst this; exact absurd hi (hnoI o))
      (fun q hq => .inl (by rw [eι]; exact hq))
    obtain ⟨g1, g2, g3⟩ := key fun hle => by
      refine ⟨.slice (some ⟨g, 0, none⟩) es.length c0, xs.take (p * s) ++ news ++ xs.drop (p * s + news.length), by simp, ⟨?_, .inr ⟨g, c0, _, hc0, by rw [overL_length hp], hgr, by rw [overL_length hp]; exact hcap, hmax, ?_, ?_⟩⟩, ?_, ?_, h0, ?_⟩
      · rw [overL_length hp]
        have := hown.1
        simp only [List.length_append, List.length_take, List.length_drop]; omega
      · simp only [List.size_toArray, List.length_append, List.length_take, List.length_drop, Array.length_toList, hcs]; omega
      · rw [overL_length hp]
        simp only
        rw [← htk]
        apply List.ext_getElem?
        intro i
        have hl : cur.toList.length = c0 * s := by simpa using hcs
        simp only [List.getElem?_take, List.getElem?_append, List.getElem?_drop, List.length_append, List.length_take]
        repeat' split
        all_goals first
          | rfl
          | omega
          | (congr 1; omega)
      · rw [overL_flat hec hyc, ← hnl]
        exact ((((hr.take _).append hn).append (hr.drop _))).mono hle
      · intro e he
        unfold overL at he
        rcases List.mem_append.1 he with he | he
        · rcases List.mem_append.1 he with he | he
          · exact hes e (List.mem_of_mem_take he)
          · exact hys e he
        · exact hes e (List.mem_of_mem_drop he)
      · intro q hq o hi
        have : q = g := by simp [hblk] at hq; exact hq.2.symm
        subst this; exact absurd hi (hnoI o)
    exact ⟨g, _, rfl, hc0, hst', _, rfl, by simp, g1, g2, g3⟩

theorem run_append_in {w w' : World} {t tx ty e : TypeId} {d : TypeDesc} {i : TypeInfo} {a : Option Addr} {len cc n m : Nat} {x : Value} {news : List Value} (ht : P.underlying t = some (.slice e)) (htx : P.underlying tx = some d)
    (hd : (∃ e', d = .slice e') ∨ d = .string) (hi : P.info? e = some i) (hn : i.size = n) (hl : (Builtin.lenOf x).run P w = .ok m w) (hf : (Builtin.firstCells n m x).run P w = .ok news.toArray w) (hfit : len + m ≤ cc)
    (hst : ∀ ad, a = some ad → (storeCells (ad.add (len * n)) news).run P w = .ok () w') (hst0 : a = none → news = [] ∧ w' = w) :
    (Builtin.append_ #[t, tx] ty #[.slice a len cc, x]).run P w = .ok (.slice a (len + m) cc) w' := by
  subst hn
  cases a with
  | none =>
    obtain ⟨rfl, rfl⟩ := hst0 rfl
    rcases hd with ⟨e', rfl⟩ | rfl <;> simp [Builtin.append_, run_underlying ht, run_underlying htx, sizeOf, typeInfo, hi, hl, hf, hfit]
  | some ad =>
    have := hst ad rfl
    rcases hd with ⟨e', rfl⟩ | rfl <;> simp [Builtin.append_, run_underlying ht, run_underlying htx, sizeOf, typeInfo, hi, hl, hf, hfit, this]

theorem run_clear_in {w w' : World} {t ty e : TypeId} {ad : Addr} {len c : Nat} {cz : Value} (ht : P.underlying t = some (.slice e)) (h0 : ¬ len = 0) (hz : ∀ w, (zeroValue e).run P w = .ok cz w)
    (hst : (storeCells ad (Builtin.zeroCells cz.cells len).toList).run P w = .ok () w') : (Builtin.clear_ #[t] ty #[.slice (some ad) len c]).run P w = .ok (.tuple #[]) w' := by
  obtain ⟨m, rfl⟩ : ∃ m, len = m + 1 := ⟨len - 1, by omega⟩
  simp [Builtin.clear_, run_underlying ht, hz, hst]

theorem run_copy_in {w w' : World} {t ts ty e : TypeId} {a : Option Addr} {len c m n : Nat} {x : Value} {news : List Value} (ht : P.underlying t = some (.slice e)) (hn : sizeT P e = some n) (hl : (Builtin.lenOf x).run P w = .ok m w)
    (hf : (Builtin.firstCells n (min m len) x).run P w = .ok news.toArray w) (hst : ∀ ad, a = some ad → (storeCells ad news).run P w = .ok () w') (hst0 : a = none → w' = w) :
    (Builtin.copy_ #[t, ts] ty #[.slice a len c, x]).run P w = .ok (.int .i64 (min m len : Nat)) w' := by
  have hf' : (Builtin.firstCells n (m.min len) x).run P w = .ok news.toArray w := hf
  cases a with
  | none =>
    have := hst0 rfl
    subst this
    simp [Builtin.copy_, run_underlying ht, run_sizeOf' hn, hl, hf', goInt]
  | some ad =>
    have := hst ad rfl
    simp [Builtin.copy_, run_underlying ht, run_sizeOf' hn, hl, hf', this, goInt]

theorem loads_of {w : World} {a : Addr} : ∀ (l : List Value) (i : Nat) (acc : Array Value), (∀ j v, l[j]? = some v → (load (a.add (i + j))).run P w = .ok v w) → (loadCellsFrom a i l.length acc).run P w = .ok (acc ++ l.toArray) w
  | [], i, acc, _ => by simp [loadCellsFrom]
  | v :: l, i, acc, h => by
    have h0 := h 0 v rfl
    rw [Nat.add_zero] at h0
    have := loads_of l (i + 1) (acc.push v) fun j u hj => by
      have := h (j + 1) u (by simpa using hj)
      rw [show i + (j + 1) = i + 1 + j by omega] at this
      exact this
    unfold loadCellsFrom
    rw [List.length_cons, Sem.run_bind, h0]
    simp only [Result.andThen_ok]
    rw [this]
    simp

theorem loads_take {w : World} {a : Addr} {n k : Nat} {arr : Array Value} (h : (loadCells a n).run P w = .ok arr w) (hk : k ≤ n) : (loadCells a k).run P w = .ok (arr.toList.take k).toArray w := by
  obtain ⟨l, hl, e, hall⟩ := loadCellsFrom_ok a n 0 #[] arr w h
  have := loads_of (P := P) (w := w) (a := a) (l.take k) 0 #[] fun j v hj => by
    rw [List.getElem?_take] at hj
    split at hj
    · exact hall j v hj
    · cases hj
  have hlen : (l.take k).length = k := by simp; omega
  rw [hlen] at this
  unfold loadCells
  rw [this, e]
  simp

theorem first_take {w : World} {n m k : Nat} {cx : Value} {news : List Value} (hm : (Builtin.firstCells n m cx).run P w = .ok news.toArray w) (hk : k ≤ m) (hs : ∀ s, cx ≠ .string s) : (Builtin.firstCells n k cx).run P w = .ok (news.take (k * n)).toArray w := by
  cases cx <;> simp only [Builtin.firstCells] at hm ⊢
  case slice a len c =>
    cases a with
    | none => simp at hm; subst hm; simp
    | some ad =>
      have := loads_take hm (Nat.mul_le_mul_right n hk)
      simpa using this
  case string s => exact absurd rfl (hs s)
  all_goals (rw [stuck] at hm; cases hm)

/-- **The operations on pieces.** -/
theorem OpOk.sub {o : Oper} {v : V} {u : Upd} (h : subOp P lk σ.get o.op = some (v, u)) : OpOk P o lk σ j v (u.app σ j) u.isNew := fun E ρ hs hj hρ => by
  obtain ⟨dst, op, type, pos, after, guard⟩ := o
  simp only at h hρ
  have wrap : ∀ {s : Sem Value} {cv : Value} {w' : World}, s.run P E.w = .ok cv w' → (do Pure.pure (Next.value (← s)) : Sem Next).run P E.w = .ok (.value cv) w' := fun h => by simp [h]
  unfold subOp at h
  split at h
  · rename_i t x lo hi mx
    obtain ⟨v1, hv1, h⟩ := Option.bind_eq_some_iff.1 h
    obtain ⟨⟨id, b, len⟩, hw, h⟩ := Option.bind_eq_some_iff.1 h
    obtain ⟨el, he, h⟩ := Option.bind_eq_some_iff.1 h
    obtain ⟨n, hn, h⟩ := Option.bind_eq_some_iff.1 h
    obtain ⟨bk, hk, h⟩ := Option.bind_eq_some_iff.1 h
    have hlo : ∀ y, lo = some y → ∀ v, lk y = some v → Rep E v (ρ y) := fun y e => hρ y (by simp [Op.operands, e])
    have hhi : ∀ y, hi = some y → ∀ v, lk y = some v → Rep E v (ρ y) := fun y e => hρ y (by simp [Op.operands, e])
    have hmx : ∀ y, mx = some y → ∀ v, lk y = some v → Rep E v (ρ y) := fun y e => hρ y (by simp [Op.operands, e])
    obtain ⟨t', s', es', ver', wr', hk', ⟨a, c, bb, c0, xs, hcx, eι, q1, q2, q3, q4, hown, hr, hes, h0, hI⟩⟩ := win_sound hw hs (hρ x (by simp [Op.operands]) _ hv1)
    rw [hk] at hk'; cases hk'
    simp only at h
    obtain ⟨l, hl, h⟩ := Option.bind_eq_some_iff.1 h
    obtain ⟨hh, hhh, hF⟩ := Option.bind_eq_some_iff.1 h
    clear h
    split at hF
    · rename_i hsn
      subst hsn
      have fin : ∀ (lh m : Nat), l ≤ lh → lh ≤ m → m ≤ c → (Instr.sliceBounds true len c (lo.map ρ) (hi.map ρ) (mx.map ρ)).run P E.w = .ok (l, lh, m) E.w →
          (Instr.sliceAt t (ρ x) (lo.map ρ) (hi.map ρ) (mx.map ρ)).run P E.w = .ok (.slice (if m = l then a else a.map (·.add (l * s'))) (lh - l) (m - l)) E.w := fun lh m _ _ _ hrb => by
        simp [Instr.sliceAt, Instr.slice, hcx, run_underlying (elemT_spec he), hrb, run_sizeOf' hn]
      split at hF
      · split at hF
        · rename_i hb
          cases hF
          have hrb := run_bounds (P := P) (E := E) (lk := lk) (ρ := ρ) (isSlice := true) (len := len) (cap := c) (mx := none) hlo hhi (by simp) hl hhh (m := c) (by simp [bndV]) hb.1 (by omega) (Nat.le_refl _) (by simp) E.w
          refine ⟨E, _, .inl (wrap (fin hh c hb.1 (by omega) (Nat.le_refl _) hrb)), .vsub eι (Nat.le_refl _) fun _ => ⟨bb, es'.length, c0, rfl, by omega, q2, by omega, fun hlt => ?_⟩, hs, Grow.refl _ _, fun _ _ h => h⟩
          rw [if_neg (by omega), q4 (by omega)]
          rcases hown.2 with ⟨a1, e2, e3⟩ | ⟨g, cap, cur, _, e2, _⟩
          · injection e2 with _ _ e5; omega
          · cases e2; simp [Addr.add_mid, Nat.add_mul]
        · cases hF
      · obtain ⟨m, hm, hG⟩ := Option.bind_eq_some_iff.1 hF
        clear hF
        split at hG
        · rename_i hb
          cases hG
          have hrb := run_bounds (P := P) (E := E) (lk := lk) (ρ := ρ) (isSlice := true) (len := len) (cap := c) (mx := some _) hlo hhi hmx hl hhh (m := m) (by rw [Option.map_some, bndV_some c 0]; exact hm) hb.2.1 hb.2.2.1 (by omega) (fun _ => hb.1) E.w
          exact ⟨E, _, .inl (wrap (fin hh m hb.2.1 hb.2.2.1 (by omega) hrb)), .any _, hs, Grow.refl _ _, fun _ _ h => h⟩
        · cases hG
    · cases hF
  · rename_i t x i
    obtain ⟨v1, hv1, h1⟩ := Option.bind_eq_some_iff.1 h
    obtain ⟨v2, hv2, h2⟩ := Option.bind_eq_some_iff.1 h1
    have hrx := hρ x (by simp [Op.operands]) _ hv1
    have hri := hρ i (by simp [Op.operands]) _ hv2
    split at h2
    · rename_i id ver z lo len kk k
      obtain ⟨⟨id', b', len'⟩, hw, h⟩ := Option.bind_eq_some_iff.1 h2
      obtain ⟨el, he, h⟩ := Option.bind_eq_some_iff.1 h
      obtain ⟨n, hn, h⟩ := Option.bind_eq_some_iff.1 h
      obtain ⟨t', s', es', ver', wr', hk', ⟨a, c, bb, c0, xs, hcx, eι, q1, q2, q3, q4, hown, hr, hes, h0, hI⟩⟩ := win_sound hw hs hrx
      have hsame : id' = id ∧ b' = lo ∧ len' = len ∧ s' = z ∧ ver' = ver := by
        unfold winV at hw
        obtain ⟨kb, hkb, hw⟩ := Option.bind_eq_some_iff.1 hw
        split at hw
        · split at hw
          · rename_i e
            cases hw
            rw [hkb] at hk'; cases hk'
            exact ⟨rfl, rfl, rfl, e.2.1.symm, e.1.symm⟩
          · cases hw
        · cases hw
      obtain ⟨rfl, rfl, rfl, rfl, rfl⟩ := hsame
      split at h
      · rename_i hc
        obtain ⟨rfl, hk0, hklt⟩ := hc
        cases h
        rcases hown.2 with ⟨a, e2, e3⟩ | ⟨g, cap, cur, hc0, e2, hg, hcap, _, hsz, htk⟩
        · omega
        · cases e2
          have ha := q4 (by omega)
          simp only [Option.map_some, Addr.add_mid, Nat.zero_add] at ha
          subst ha
          have hi' : ρ i = .int kk k := by revert hri; generalize ρ i = y; intro hri; cases hri; rfl
          have hb : 0 ≤ k ∧ k < (len' : Int) := ⟨hk0, by omega⟩
          refine ⟨E, .pointer (some ⟨g, b' * s' + k.toNat * s', none⟩), .inl (wrap ?_), ?_, hs, Grow.refl _ _, fun _ _ h => h⟩
          · rw [hcx, hi']
            simp [Instr.indexAt, asIntOf, run_underlying (elemT_spec he), hb, run_sizeOf' hn, Addr.add_mid]
          · have := Rep.eptr (E := E) (id := id') (ver := ver') (s := s') (i := b' + k.toNat) (off := 0) (b := g) eι (Nat.le_refl _) fun _ => ⟨_, _, rfl⟩
            simpa [Nat.add_mul] using this
      · cases h
    · cases h2
  · rename_i c
    split at h
    · rename_i x t hcal hargs hats
      obtain ⟨vx, hvx, h1⟩ := Option.bind_eq_some_iff.1 h
      have ha : c.args = #[x] := by rw [← Array.toArray_toList (xs := c.args), hargs]
      have hat : c.argTypes = #[t] := by rw [← Array.toArray_toList (xs := c.argTypes), hats]
      have hrx := hρ x (by simp [Op.operands, Call.operands, ha]) _ hvx
      split at h1
      · rename_i id ver z lo len
        split at h1
        · rename_i hsort
          obtain ⟨q, hw, e⟩ := Option.map_eq_some_iff.1 h1
          cases e
          obtain ⟨d, hd⟩ := sortT_slice hsort
          obtain ⟨ad, cc, hcx⟩ : ∃ a c, ρ x = .slice a len c := by
            revert hrx; generalize ρ x = y; intro hrx; cases hrx; exact ⟨_, _, rfl⟩
          refine ⟨E, _, .inl ?_, .int _ _, hs, Grow.refl _ _, fun _ _ h => h⟩
          simp only [execOp, resolve, hcal, Sem.run_bind, Sem.run_pure, Result.andThen_ok, invoke, builtin, ha, hat, List.map_toArray, List.map_cons, List.map_nil, Builtin.len_, List.getElem?_toArray, List.getElem?_cons_zero, run_underlying hd, hcx]
          rfl
        · cases h1
      · cases h1
    · rename_i x t hcal hargs hats
      obtain ⟨vx, hvx, h⟩ := Option.bind_eq_some_iff.1 h
      have ha : c.args = #[x] := by rw [← Array.toArray_toList (xs := c.args), hargs]
      have hat : c.argTypes = #[t] := by rw [← Array.toArray_toList (xs := c.argTypes), hats]
      have hrx := hρ x (by simp [Op.operands, Call.operands, ha]) _ hvx
      obtain ⟨⟨id, b, len⟩, hw, h⟩ := Option.bind_eq_some_iff.1 h
      obtain ⟨el, he, h⟩ := Option.bind_eq_some_iff.1 h
      obtain ⟨n, hn, h⟩ := Option.bind_eq_some_iff.1 h
      obtain ⟨z, hz, h⟩ := Option.bind_eq_some_iff.1 h
      obtain ⟨bk, hk, h⟩ := Option.bind_eq_some_iff.1 h
      obtain ⟨t', s', es', ver', wr', hk', ⟨a, cc, bb, c0, xs, hcx, eι, q1, q2, q3, q4, hown, hr, hes, h0, hI⟩⟩ := win_sound hw hs hrx
      rw [hk] at hk'; cases hk'
      have hF := h
      clear h
      simp only at hF
      split at hF
      · rename_i hc
        obtain ⟨rfl, hzn, rfl⟩ := hc
        cases hF
        obtain ⟨cz, hzrun, hzrep, hzok, hzl⟩ := zeroC_run hz E
        by_cases hl0 : len = 0
        · subst hl0
          refine ⟨E, .tuple #[], .inl ?_, .tup .nil, hs, Grow.refl E σ, fun _ _ h => h⟩
          simp only [execOp, resolve, hcal, Sem.run_bind, Sem.run_pure, Result.andThen_ok, invoke, builtin, ha, hat, List.map_toArray, List.map_cons, List.map_nil, Builtin.clear_, List.getElem?_toArray, List.getElem?_cons_zero, run_underlying (elemT_spec he), hcx]
          cases a <;> rfl
        · have hall : ∀ e ∈ List.replicate len z, e.cells.length = s' ∧ e.ok := fun e he => by rw [(List.mem_replicate.1 he).2]; exact ⟨hzn, hzok⟩
          have hzr := zeros_rep (E := E) (m := len) hzl hzn h0
          obtain ⟨g, w', e1, hc0, hrun, E', hE', hι', g1, g2, g3⟩ := write_at (p := b) (ys := List.replicate len z) hs (Store.get_mem hk) eι hown hr hes h0 hI (by simpa using q1) (by simp; omega) hzr hall
          subst e1
          have ha' := q4 (by omega)
          simp only [Option.map_some, Addr.add_mid, Nat.zero_add] at ha'
          subst ha'
          have happ : (if len = 0 then Upd.none else Upd.put id (.vec t' s' (overL es' b (List.replicate len z)) ver' true)) = Upd.put id (.vec t' s' (overL es' b (List.replicate len z)) ver' true) := if_neg hl0
          rw [happ]
          refine ⟨E', .tuple #[], .inl ?_, .tup .nil, g1, g2, fun i _ hi => g3 i hi⟩
          have hzc : (Builtin.zeroCells cz.cells len).toList = ((Array.range (len * s')).map fun k => cz.cells[k % cz.cells.size]!).toList := by
            have hzs : cz.cells.size = s' := by rw [← hzn]; simpa using hzl.length
            unfold Builtin.zeroCells
            rw [hzs]
          have := run_clear_in (ty := type) (elemT_spec he) (c := c0 - b) hl0 hzrun (hzc ▸ hrun)
          rw [q3] at hcx
          simp only [execOp, resolve, hcal, Sem.run_bind, Sem.run_pure, Result.andThen_ok, invoke, builtin, ha, hat, List.map_toArray, List.map_cons, List.map_nil, hcx, this, hE']
      · cases hF
    · rename_i s x t tx hcal hargs hats
      obtain ⟨v1, hv1, h⟩ := Option.bind_eq_some_iff.1 h
      have ha : c.args = #[s, x] := by rw [← Array.toArray_toList (xs := c.args), hargs]
      have hat : c.argTypes = #[t, tx] := by rw [← Array.toArray_toList (xs := c.argTypes), hats]
      split at h
      · rename_i id ver z lo len
        obtain ⟨v2, hv2, h⟩ := Option.bind_eq_some_iff.1 h
        have hrs := hρ s (by simp [Op.operands, Call.operands, ha]) _ hv1
        have hrx := hρ x (by simp [Op.operands, Call.operands, ha]) _ hv2
        obtain ⟨⟨id', b', len'⟩, hw, h⟩ := Option.bind_eq_some_iff.1 h
        obtain ⟨el, he, h⟩ := Option.bind_eq_some_iff.1 h
        obtain ⟨n, hn, h⟩ := Option.bind_eq_some_iff.1 h
        obtain ⟨xs', hxs, h⟩ := Option.bind_eq_some_iff.1 h
        obtain ⟨bk, hk, h⟩ := Option.bind_eq_some_iff.1 h
        obtain ⟨t', s', es', ver', wr', hk', ⟨a, cc, bb, c0, xs, hcx, eι, q1, q2, q3, q4, hown, hr, hes, h0, hI⟩⟩ := win_sound hw hs hrs
        have hsame : id' = id ∧ b' = lo ∧ len' = len ∧ s' = z ∧ ver' = ver := by
          unfold winV at hw
          obtain ⟨kb, hkb, hw⟩ := Option.bind_eq_some_iff.1 hw
          split at hw
          · split at hw
            · rename_i e
              cases hw
              rw [hkb] at hk'; cases hk'
              exact ⟨rfl, rfl, rfl, e.2.1.symm, e.1.symm⟩
            · cases hw
          · cases hw
        obtain ⟨rfl, rfl, rfl, rfl, rfl⟩ := hsame
        rw [hk] at hk'; cases hk'
        have hF := h
        clear h
        simp only at hF
        split at hF
        · rename_i hc
          obtain ⟨_, rfl, rfl, hfit⟩ := hc
          cases hF
          obtain ⟨news, d, hsrc, hnr, hxe, htx, hd⟩ := srcV_sound hxs hs hrx
          have hcap : len' + xs'.length ≤ cc := by omega
          have hl := hsrc.len
          have hf := hsrc.first E.w rfl
          have rep : ∀ E' : Amb, E'.ι id' = .vec (.slice bb es'.length c0) ver' → Rep E' (.vsub id' ver' s' b' (len' + xs'.length)) (.slice a (len' + xs'.length) cc) := fun E' e =>
            .vsub e (Nat.le_refl _) fun _ => ⟨bb, es'.length, c0, rfl, by omega, q2, q3, q4⟩
          obtain ⟨ie, hie, hies⟩ := sizeT_spec hn
          by_cases hl0 : xs'.length = 0
          · have hxl : xs' = [] := List.eq_nil_of_length_eq_zero hl0
            subst hxl
            have hnn : news = [] := List.eq_nil_of_length_eq_zero (by simpa using hsrc.size)
            subst hnn
            refine ⟨E, .slice a (len' + 0) cc, .inl ?_, rep E eι, hs, Grow.refl E σ, fun _ _ h => h⟩
            simp only [List.length_nil] at hl hf hcap
            have := run_append_in (ty := type) (elemT_spec he) htx hd hie hies hl hf (a := a) (len := len') (cc := cc) hcap (w' := E.w) (fun _ _ => rfl) (fun _ => ⟨rfl, rfl⟩)
            simp only [execOp, resolve, hcal, Sem.run_bind, Sem.run_pure, Result.andThen_ok, invoke, builtin, ha, hat, List.map_toArray, List.map_cons, List.map_nil, hcx, this]
          · obtain ⟨g, w', e1, hc0, hrun, E', hE', hι', g1, g2, g3⟩ := write_at (p := b' + len') (ys := xs') hs (Store.get_mem hk) eι hown hr hes h0 hI hfit (by omega) hnr hxe
            subst e1
            have ha' := q4 (by omega)
            simp only [Option.map_some, Addr.add_mid, Nat.zero_add] at ha'
            subst ha'
            have happ : (if xs'.length = 0 then Upd.none else Upd.put id' (.vec t' s' (overL es' (b' + len') xs') ver' true)) = Upd.put id' (.vec t' s' (overL es' (b' + len') xs') ver' true) := if_neg hl0
            rw [happ]
            refine ⟨E', .slice (some ⟨g, b' * s', none⟩) (len' + xs'.length) cc, .inl ?_, rep E' hι', g1, g2, fun i _ hi => g3 i hi⟩
            have hadr : (⟨g, b' * s', none⟩ : Addr).add (len' * s') = ⟨g, (b' + len') * s', none⟩ := by rw [Addr.add_mid, Nat.add_mul]
            have := run_append_in (ty := type) (elemT_spec he) htx hd hie hies hl hf (a := some ⟨g, b' * s', none⟩) (len := len') (cc := cc) hcap (w' := w') (fun ad e => by cases e; rw [hadr]; exact hrun) (fun h => by cases h)
            simp only [execOp, resolve, hcal, Sem.run_bind, Sem.run_pure, Result.andThen_ok, invoke, builtin, ha, hat, List.map_toArray, List.map_cons, List.map_nil, hcx, this, hE']
        · cases hF
      · cases h
    · rename_i dd s t ts hcal hargs hats
      have ha : c.args = #[dd, s] := by rw [← Array.toArray_toList (xs := c.args), hargs]
      have hat : c.argTypes = #[t, ts] := by rw [← Array.toArray_toList (xs := c.argTypes), hats]
      have hF0 := h
      clear h
      split at hF0
      case isFalse => cases hF0
      rename_i hsl
      have h := hF0
      clear hF0
      obtain ⟨v1, hv1, h⟩ := Option.bind_eq_some_iff.1 h
      obtain ⟨v2, hv2, h⟩ := Option.bind_eq_some_iff.1 h
      have hrs := hρ dd (by simp [Op.operands, Call.operands, ha]) _ hv1
      have hrx := hρ s (by simp [Op.operands, Call.operands, ha]) _ hv2
      obtain ⟨⟨id, b, len⟩, hw, h⟩ := Option.bind_eq_some_iff.1 h
      obtain ⟨el, he, h⟩ := Option.bind_eq_some_iff.1 h
      obtain ⟨n, hn, h⟩ := Option.bind_eq_some_iff.1 h
      obtain ⟨xs', hxs, h⟩ := Option.bind_eq_some_iff.1 h
      obtain ⟨bk, hk, h⟩ := Option.bind_eq_some_iff.1 h
      obtain ⟨t', s', es', ver', wr', hk', ⟨a, cc, bb, c0, xs, hcx, eι, q1, q2, q3, q4, hown, hr, hes, h0, hI⟩⟩ := win_sound hw hs hrs
      rw [hk] at hk'; cases hk'
      have hF := h
      clear h
      simp only at hF
      split at hF
      · rename_i hc
        obtain ⟨rfl, rfl⟩ := hc
        cases hF
        obtain ⟨news, d, hsrc, hnr, hxe, htx, hd⟩ := srcV_sound hxs hs hrx
        have hns : ∀ q, ρ s ≠ .string q := fun q e => by
          rw [e] at hrx
          cases hrx <;> simp [srcV, hsl] at hxs
        have hmin : min xs'.length len ≤ xs'.length := Nat.min_le_left _ _
        have hf := first_take (hsrc.first E.w rfl) hmin hns
        have htk : (xs'.take len).length = min xs'.length len := by simp; omega
        have hnews : RepL E ((xs'.take len).flatMap V.cells) (news.take (min xs'.length len * s')) := by
          have : xs'.take len = xs'.take (min xs'.length len) := by rw [← List.take_length (l := xs'.take len), htk, List.take_take]; simp
          rw [this, flat_take fun e he => (hxe e he).1]
          exact hnr.take _
        have hall : ∀ e ∈ xs'.take len, e.cells.length = s' ∧ e.ok := fun e he => hxe e (List.mem_of_mem_take he)
        by_cases hl0 : (xs'.take len).length = 0
        · rw [if_pos hl0]
          have h00 : min xs'.length len = 0 := by omega
          refine ⟨E, _, .inl ?_, .int _ _, hs, Grow.refl E σ, fun _ _ h => h⟩
          have := run_copy_in (ts := ts) (ty := type) (elemT_spec he) hn hsrc.len hf (a := a) (c := cc) (w' := E.w) (fun ad _ => by rw [h00]; simp [storeCells]) (fun _ => rfl)
          simp only [execOp, resolve, hcal, Sem.run_bind, Sem.run_pure, Result.andThen_ok, invoke, builtin, ha, hat, List.map_toArray, List.map_cons, List.map_nil, hcx, this]
        · rw [if_neg hl0]
          obtain ⟨g, w', e1, hc0, hrun, E', hE', hι', g1, g2, g3⟩ := write_at (p := b) (ys := xs'.take len) hs (Store.get_mem hk) eι hown hr hes h0 hI (by rw [htk]; omega) (by omega) hnews hall
          subst e1
          have ha' := q4 (by omega)
          simp only [Option.map_some, Addr.add_mid, Nat.zero_add] at ha'
          subst ha'
          refine ⟨E', _, .inl ?_, .int _ _, g1, g2, fun i _ hi => g3 i hi⟩
          have := run_copy_in (ts := ts) (ty := type) (elemT_spec he) hn hsrc.len hf (a := some ⟨g, b * s', none⟩) (c := cc) (w' := w') (fun ad e => by cases e; exact hrun) (fun e => by cases e)
          simp only [execOp, resolve, hcal, Sem.run_bind, Sem.run_pure, Result.andThen_ok, invoke, builtin, ha, hat, List.map_toArray, List.map_cons, List.map_nil, hcx, this, hE']
      · cases hF
    · cases h
  · cases h
end
end Go.Awp

/- AWP, text 12c: a literal slice as a slice of one's own. -/
namespace Go.Awp
open Go

def litR (P : Program) (lk : Operand → Option V) (j : Id) (t len : Nat) (ps : List (Nat × Operand)) : Option (V × Upd) :=
  (partsV lk ps).bind fun vs => (litV P t len vs).bind fun es => (elemT P t).bind fun el => (sizeT P el).bind fun n =>
    if 0 < n ∧ 0 < len then some (.vec j 1, .new (.vec el n es 1 true)) else none

section
variable {P : Program} {lk : Operand → Option V} {σ : Store} {j : Id} {E : Amb}

theorem litV_own {t len el n : Nat} {ps : List (Nat × V)} {es : List V} {cps : List (Nat × Value)} (h : litV P t len ps = some es) (he0 : elemT P t = some el) (hn0 : sizeT P el = some n) (h0n : 0 < n) (h0l : 0 < len)
    (hs : StoreRel E σ) (hj : E.ι j = .unborn) (hp : cps.map (·.1) = ps.map (·.1)) (hr : RepL E (ps.map (·.2)) (cps.map (·.2))) :
    ∃ E' cv, (Instr.buildSlice t len cps.toArray).run P E.w = .ok cv E'.w ∧ Rep E' (.vec j 1) cv ∧ StoreRel E' ((j, .vec el n es 1 true) :: σ) ∧ Grow E σ E' ((j, .vec el n es 1 true) :: σ) ∧ ∀ id, id ≠ j → E.ι id = .unborn → E'.ι id = .unborn := by
  unfold litV at h
  obtain ⟨el', he, h1⟩ := Option.bind_eq_some_iff.1 h
  rw [he0] at he; cases he
  obtain ⟨n', hn, h2⟩ := Option.bind_eq_some_iff.1 h1
  rw [hn0] at hn; cases hn
  obtain ⟨z, hz, h3⟩ := Option.bind_eq_some_iff.1 h2
  split at h3
  · rename_i hc
    obtain ⟨hm, hsmall, hzn, hall⟩ := hc
    cases h3
    have hlen : ps.length = len := by have := congrArg List.length hm; simpa using this
    obtain ⟨cz, hzrun, hzrep, hzok, hzl⟩ := zeroC_run hz E
    have hu := elemT_spec he0
    have hfa := fill_all (n := n) ps 0
    have h0 : ¬ len * n = 0 := Nat.ne_of_gt (Nat.mul_pos h0l h0n)
    have hzr := zeros_rep (m := len) hzl hzn h0n
    have hrl : ((List.replicate len z).flatMap V.cells).length = len * n := by
      rw [flat_length (s := n) fun e he => by rw [(List.mem_replicate.1 he).2, hzn]]; simp
    obtain ⟨cells', hf, hcr, _, hcl⟩ := fillV_sound (hfa _ (by rw [hm, hlen, List.range_eq_range']) hall (by rw [hrl, Nat.zero_add, hlen])) hp hr hzr
      (fun c hm => by obtain ⟨e, he, hm'⟩ := List.mem_flatMap.1 hm; rw [(List.mem_replicate.1 he).2] at hm'; exact hzok c hm')
    have hrun : (Instr.buildSlice t len cps.toArray).run P E.w = .ok (.slice (some ⟨E.w.heap.size, 0, none⟩) len len) (E.w.alloc (.cells cells' el)) := by
      have : ¬ len * n > 2 ^ 24 := by omega
      simp [Instr.buildSlice, run_underlying hu, run_sizeOf' hn0, h0, hf, newRow, hzrun]
      omega
    have hcr' : RepL E ((ps.map (·.2)).flatMap V.cells) cells'.toList := by simpa using hcr
    have hok : ∀ e ∈ ps.map (·.2), e.cells.length = n ∧ e.ok := fun e he => by
      obtain ⟨p, hp', rfl⟩ := List.mem_map.1 he
      obtain ⟨i, hi⟩ := List.getElem?_of_mem he
      obtain ⟨cv, _, hrep⟩ := hr.get hi
      exact ⟨(hall p hp').2, (hrep.cells (hall p hp').1).2⟩
    have hel : (ps.map (·.2)).length = len := by simp [hlen]
    have hsz : cells'.size = len * n := by
      have h5 := hcr'.length
      rw [flat_length fun e he => (hok e he).1, hel] at h5
      simpa using h5
    have hcap : len ≤ maxLen := by
      have h6 : len * 1 ≤ len * n := Nat.mul_le_mul_left _ h0n
      simp only [maxLen]; omega
    obtain ⟨E', q1, q2, q3, q4, q5⟩ := new_vec (es := ps.map (·.2)) (c := cells') (cap := len) hs hj el n h0n hsz hcap (by omega) rfl (by rw [hel, ← hsz, List.take_of_length_le (by simp)]; exact hcr') hok
    rw [hel] at q2
    exact ⟨E', _, by rw [q1]; exact hrun, q2, q3, q4, q5⟩
  · cases h3

theorem OpOk.lit {o : Oper} {t len : Nat} {ps : Array (Nat × Operand)} {v : V} {u : Upd} (ho : o.op = .buildSlice t len ps) (h : litR P lk j t len ps.toList = some (v, u)) : OpOk P o lk σ j v (u.app σ j) u.isNew := fun E ρ hs hj hρ => by
  unfold litR at h
  obtain ⟨vs, hvs, h1⟩ := Option.bind_eq_some_iff.1 h
  obtain ⟨es, hes, h2⟩ := Option.bind_eq_some_iff.1 h1
  obtain ⟨el, hel, h3⟩ := Option.bind_eq_some_iff.1 h2
  obtain ⟨n, hn, h4⟩ := Option.bind_eq_some_iff.1 h3
  split at h4
  · rename_i hc
    cases h4
    obtain ⟨hp, hr⟩ := partsV_rep (ρ := ρ) hvs fun p hp => hρ p.2 (by rw [ho]; simp [Op.operands]; exact ⟨p.1, by simpa using hp⟩)
    obtain ⟨E', cv, q1, q2, q3, q4, q5⟩ := litV_own hes hel hn hc.1 hc.2 hs hj hp hr
    refine ⟨E', cv, .inl ?_, q2, q3, q4, fun id hne => q5 id (hne rfl)⟩
    rw [toArray_map] at q1
    obtain ⟨dst, op, type, pos, after, guard⟩ := o
    simp only at ho
    subst ho
    have wrap : ∀ {s : Sem Value} {cv : Value} {w' : World}, s.run P E.w = .ok cv w' → (do Pure.pure (Next.value (← s)) : Sem Next).run P E.w = .ok (.value cv) w' := fun h => by simp [h]
    exact wrap q1
  · cases h4
end
end Go.Awp

/- AWP, text 13: states, code, functions. -/
namespace Go.Awp
open Go

structure Ctx where
  P : Program
  G : List (Nat × V)
  /-- Statements (by their number) that are to be looked at by hand. -/
  ex : List Nat
  mixed : P.follows .mixedOrders = true
  /-- Types of slices whose literals are one's own. -/
  own : List TypeId

def GlobRel (C : Ctx) (E : Amb) : Prop := ∀ g v, C.G.lookup g = some v → Rep E (.rptr v) (.pointer (some ⟨g, 0, none⟩))

theorem GlobRel.mono {C : Ctx} {E E' : Amb} (h : GlobRel C E) (le : E.Le E') : GlobRel C E' := fun g v hv => (h g v hv).mono le

structure ASt where
  τ : List (Nat × V)
  σ : Store
  n : Nat
  lv : Nat
  nx : Nat

def lkA (C : Ctx) (τ : List (Nat × V)) : Operand → Option V
  | .tmp t => τ.lookup t
  | .const v => ofV v
  | .global g => (C.G.lookup g).map .rptr
  | .func f => some (.func (.func f) [] [])

structure Rel (C : Ctx) (s : ASt) (E : Amb) (a : Act) : Prop where
  tmp : ∀ t v, s.τ.lookup t = some v → Rep E v (a.tmps.getD t undef)
  size : a.tmps.size = s.n
  store : StoreRel E s.σ
  own : ∀ k, s.nx ≤ k → E.ι (s.lv, k) = .unborn
  glob : GlobRel C E

theorem lkA_rep {C : Ctx} {s : ASt} {E : Amb} {a : Act} (h : Rel C s E a) {x : Operand} {v : V} (hv : lkA C s.τ x = some v) : Rep E v (a.eval x) := by
  cases x with
  | tmp t => exact h.tmp t v hv
  | const c => exact (ofV_rep hv).1
  | global g =>
    obtain ⟨u, hu, rfl⟩ := Option.map_eq_some_iff.1 hv
    exact h.glob g u hu
  | func f => cases hv; exact .func .nil .nil

inductive AExit where
  | normal
  | exit (id : Nat)
  | goto (l : Nat)
  | ret
  | panic (v : V)

inductive ExitRel (E : Amb) : AExit → Exit → Prop
  | normal : ExitRel E .normal .normal
  | exit (id : Nat) : ExitRel E (.exit id) (.exit id)
  | goto (l : Nat) : ExitRel E (.goto l) (.goto l)
  | ret : ExitRel E .ret .ret
  | panic {v : V} {cv : Value} (h : Rep E v cv) : ExitRel E (.panic v) (.panic [{ v := cv, recovered := false }])

/-- What holds behind a piece of code that began in s. -/
structure Post (C : Ctx) (K : AExit → ASt → Prop) (s : ASt) (E : Amb) (a : Act) (e : Exit) (a' : Act) (w' : World) (E' : Amb) (ae : AExit) (s' : ASt) : Prop where
  w : E'.w = w'
  exit : ExitRel E' ae e
  k : K ae s'
  rel : Rel C s' E' a'
  grow : Grow E s.σ E' s'.σ
  defers : a'.defers = a.defers
  lv : s'.lv = s.lv
  born : ∀ id : Id, id.1 < s.lv → E.ι id = .unborn → E'.ι id = .unborn

def AW (C : Ctx) (c : Code) (K : AExit → ASt → Prop) (s : ASt) : Prop :=
  ∀ E a, Rel C s E a → c.wp C.P (fun e a' w' => ∃ E' ae s', Post C K s E a e a' w' E' ae s') a E.w

section
variable {C : Ctx} {K : AExit → ASt → Prop} {s : ASt}

theorem aw_mono {c : Code} {K' : AExit → ASt → Prop} (h : AW C c K s) (hk : ∀ e s, K e s → K' e s) : AW C c K' s := fun E a hr =>
  wp_mono (h E a hr) fun _ _ _ ⟨E', ae, s', p⟩ => ⟨E', ae, s', { p with k := hk _ _ p.k }⟩

/-- Another description of the same moment. -/
def Turn (C : Ctx) (s s' : ASt) : Prop :=
  ∀ E a, Rel C s E a → ∃ E', E'.w = E.w ∧ Rel C s' E' a ∧ Grow E s.σ E' s'.σ ∧ s'.lv = s.lv ∧ ∀ id : Id, id.1 < s.lv → E.ι id = .unborn → E'.ι id = .unborn

theorem Turn.refl (C : Ctx) (s : ASt) : Turn C s s := fun E _ h => ⟨E, rfl, h, Grow.refl _ _, rfl, fun _ _ h => h⟩

theorem Turn.trans {C : Ctx} {s t u : ASt} (h : Turn C s t) (k : Turn C t u) : Turn C s u := fun E a hr => by
  obtain ⟨E1, w1, r1, g1, l1, b1⟩ := h E a hr
  obtain ⟨E2, w2, r2, g2, l2, b2⟩ := k E1 a r1
  exact ⟨E2, w2.trans w1, r2, g1.trans g2, l2.trans l1, fun id hi hu => b2 id (by omega) (b1 id hi hu)⟩

theorem aw_turn {c : Code} {s' : ASt} (ht : Turn C s s') (h : AW C c K s') : AW C c K s := fun E a hr => by
  obtain ⟨E1, w1, r1, g1, l1, b1⟩ := ht E a hr
  have := h E1 a r1
  rw [w1] at this
  exact wp_mono this fun _ _ _ ⟨E', ae, s'', p⟩ => ⟨E', ae, s'', { w := p.w, exit := p.exit, k := p.k, rel := p.rel, grow := g1.trans p.grow, defers := p.defers, lv := p.lv.trans l1, born := fun id hi hu => p.born id (by omega) (b1 id hi hu) }⟩

/-- Behind K too. -/
theorem aw_post {c : Code} {K' : AExit → ASt → Prop} (h : AW C c K s) (hk : ∀ e s, K e s → ∃ s', Turn C s s' ∧ K' e s') : AW C c K' s := fun E a hr =>
  wp_mono (h E a hr) fun e a' w' ⟨E', ae, s', p⟩ => by
    obtain ⟨s2, ht, hk2⟩ := hk _ _ p.k
    obtain ⟨E2, w2, r2, g2, l2, b2⟩ := ht E' a' p.rel
    refine ⟨E2, ae, s2, w2.trans p.w, ?_, hk2, r2, p.grow.trans g2, p.defers, l2.trans p.lv, fun id hi hu => b2 id (by rw [p.lv]; exact hi) (p.born id hi hu)⟩
    have := p.exit
    cases this with
    | normal => exact .normal
    | exit => exact .exit _
    | goto => exact .goto _
    | ret => exact .ret
    | panic h => exact .panic (h.mono g2.le)

theorem Post.here {e : AExit} {e' : Exit} {E : Amb} {a : Act} (hr : Rel C s E a) (he : ExitRel E e e') (h : K e s) : Post C K s E a e' a E.w E e s :=
  ⟨rfl, he, h, hr, Grow.refl _ _, rfl, rfl, fun _ _ h => h⟩

theorem aw_skip (h : K .normal s) : AW C .skip K s := fun E _ hr => wp_skip ⟨E, .normal, s, Post.here hr .normal h⟩
theorem aw_label {l : Nat} (h : K .normal s) : AW C (.label l) K s := fun E _ hr => wp_label ⟨E, .normal, s, Post.here hr .normal h⟩
theorem aw_exit {id : Nat} (h : K (.exit id) s) : AW C (.exit id) K s := fun E _ hr => wp_exit ⟨E, _, s, Post.here hr (.exit id) h⟩
theorem aw_goto {l : Nat} (h : K (.goto l) s) : AW C (.goto l) K s := fun E _ hr => wp_goto ⟨E, _, s, Post.here hr (.goto l) h⟩
theorem aw_ret (h : K .ret s) : AW C .ret K s := fun E _ hr => wp_ret ⟨E, _, s, Post.here hr .ret h⟩

/-- What follows, behind the normal end. -/
def Then (N : ASt → Prop) (K : AExit → ASt → Prop) : AExit → ASt → Prop
  | .normal, s => N s
  | e, s => K e s

theorem Post.trans {N : ASt → Prop} {E E1 : Amb} {a a1 : Act} {w1 : World} {s1 : ASt} {e : Exit} {a' : Act} {w' : World} {E' : Amb} {ae : AExit} {s' : ASt}
    (p : Post C (Then N K) s E a .normal a1 w1 E1 .normal s1) (q : Post C K s1 E1 a1 e a' w' E' ae s') : Post C K s E a e a' w' E' ae s' :=
  ⟨q.w, q.exit, q.k, q.rel, p.grow.trans q.grow, q.defers.trans p.defers, q.lv.trans p.lv, fun id hi hu => q.born id (by rw [p.lv]; exact hi) (p.born id hi hu)⟩

theorem aw_seq {x y : Code} (h : AW C x (Then (AW C y K) K) s) : AW C (.seq x y) K s := fun E a hr => by
  refine wp_seq (wp_mono (h E a hr) ?_)
  rintro e a1 w1 ⟨E1, ae, s1, p⟩
  have hx := p.exit
  cases hx with
  | normal =>
    have hk : AW C y K s1 := p.k
    have := hk E1 a1 p.rel
    rw [p.w] at this
    exact wp_mono this fun e a' w' ⟨E', ae, s', q⟩ => ⟨E', ae, s', p.trans q⟩
  | exit id => exact ⟨E1, _, s1, { p with k := p.k }⟩
  | goto l => exact ⟨E1, _, s1, { p with k := p.k }⟩
  | ret => exact ⟨E1, _, s1, { p with k := p.k }⟩
  | panic h => exact ⟨E1, _, s1, { p with k := p.k }⟩

/-- The rest hidden behind a name. -/
theorem aw_seq_k {x y : Code} (h : ∀ N : ASt → Prop, (∀ s, AW C y K s → N s) → AW C x (Then N K) s) : AW C (.seq x y) K s := aw_seq (h _ fun _ h => h)

theorem aw_cond {c : Operand} {x y : Code} {b : Bool} (hc : lkA C s.τ c = some (.bool b)) (ht : b = true → AW C x K s) (hf : b = false → AW C y K s) : AW C (.cond c x y) K s := fun E a hr => by
  have hb : a.eval c = .bool b := by
    have := lkA_rep hr hc
    revert this; generalize a.eval c = v; intro h; cases h; rfl
  exact wp_cond_split hb (fun h => ht h E a hr) (fun h => hf h E a hr)

def InBlock (id : Nat) (K : AExit → ASt → Prop) : AExit → ASt → Prop
  | .exit i, s => if i = id then K .normal s else K (.exit i) s
  | e, s => K e s

theorem aw_block {id : Nat} {c : Code} (h : AW C c (InBlock id K) s) : AW C (.block id c) K s := fun E a hr => by
  refine wp_block (wp_mono (h E a hr) ?_)
  rintro e a1 w1 ⟨E1, ae, s1, p⟩
  have hx := p.exit
  have hk := p.k
  cases hx with
  | normal => exact ⟨E1, _, s1, { p with k := hk }⟩
  | exit i =>
    simp only [InBlock] at hk
    simp only [Exit.inBlock]
    split at hk
    · rename_i e
      rw [if_pos e]
      exact ⟨E1, .normal, s1, { p with k := hk, exit := .normal }⟩
    · rename_i e
      rw [if_neg e]
      exact ⟨E1, _, s1, { p with k := hk }⟩
  | goto l => exact ⟨E1, _, s1, { p with k := hk }⟩
  | ret => exact ⟨E1, _, s1, { p with k := hk }⟩
  | panic h => exact ⟨E1, _, s1, { p with k := hk }⟩

/-- **The loop.** In a round the new ids are of a level of their own. -/
theorem aw_loop {c : Code} {α : Type} (I : α → List (Nat × V)) (S : α → Store) (μ : α → Nat) (x₀ : α) (h₀ : Turn C s { s with τ := I x₀, σ := S x₀ })
    (round : ∀ x L, s.lv < L → (∀ id, id ∈ (S x).keys → id.1 ≠ L) →
      AW C c (fun e s' => match e with
        | .normal => ∃ x', μ x' < μ x ∧ Turn C { s' with lv := s.lv, nx := s.nx } { s with τ := I x', σ := S x' }
        | e => K e { s' with lv := s.lv, nx := s.nx }) { s with τ := I x, σ := S x, lv := L, nx := 0 }) :
    AW C (.loop c) K s := by
  refine aw_turn h₀ fun E a hr => ?_
  have := wp_loop_ghost (P := C.P) (Q := fun e a' w' => ∃ E' ae s', Post C K { s with τ := I x₀, σ := S x₀ } E a e a' w' E' ae s') (a := a) (w := E.w) (c := c)
    (fun n a1 w1 => ∃ x E1, μ x = n ∧ E1.w = w1 ∧ Rel C { s with τ := I x, σ := S x } E1 a1 ∧ Grow E (S x₀) E1 (S x) ∧ a1.defers = a.defers ∧ ∀ id : Id, id.1 < s.lv → E.ι id = .unborn → E1.ι id = .unborn)
    (μ x₀) ⟨x₀, E, rfl, rfl, hr, Grow.refl _ _, rfl, fun _ _ h => h⟩ ?_
  · exact this
  · rintro n a1 w1 ⟨x, E1, rfl, rfl, r1, g1, d1, b1⟩
    obtain ⟨N, hN⟩ := r1.store.fin
    let L := max N (s.lv + 1)
    have hL : ∀ id : Id, L ≤ id.1 → E1.ι id = .unborn := fun id hi => hN id (by simp only [L] at hi; omega)
    have hlv : s.lv < L := by simp only [L]; omega
    have hkeys : ∀ id, id ∈ (S x).keys → id.1 ≠ L := fun id hi e => by
      obtain ⟨k, _, hk⟩ := r1.store.mem hi
      exact hk.born (hL id (by omega))
    have hrel : Rel C { s with τ := I x, σ := S x, lv := L, nx := 0 } E1 a1 := ⟨r1.tmp, r1.size, r1.store, fun k _ => hL (L, k) (Nat.le_refl _), r1.glob⟩
    refine wp_mono (round x L hlv hkeys E1 a1 hrel) ?_
    rintro e a2 w2 ⟨E2, ae, s2, p⟩
    have hx := p.exit
    have back : Rel C { s2 with lv := s.lv, nx := s.nx } E2 a2 :=
      ⟨p.rel.tmp, p.rel.size, p.rel.store, fun k hk => p.born (s.lv, k) hlv (r1.own k hk), p.rel.glob⟩
    have bornAll : ∀ id : Id, id.1 < s.lv → E.ι id = .unborn → E2.ι id = .unborn := fun id hi hu => p.born id (by show id.1 < L; omega) (b1 id hi hu)
    have out : ∀ ae', ExitRel E2 ae' e → K ae' { s2 with lv := s.lv, nx := s.nx } → ∃ E' ae s', Post C K { s with τ := I x₀, σ := S x₀ } E a e a2 w2 E' ae s' := fun ae' he hk =>
      ⟨E2, ae', _, p.w, he, hk, back, g1.trans p.grow, p.defers.trans d1, rfl, bornAll⟩
    cases hx with
    | normal =>
      obtain ⟨x', hlt, ht⟩ := p.k
      obtain ⟨E3, w3, r3, g3, l3, b3⟩ := ht E2 a2 back
      exact ⟨μ x', hlt, x', E3, rfl, w3.trans p.w, r3, (g1.trans p.grow).trans g3, p.defers.trans d1, fun id hi hu => b3 id hi (bornAll id hi hu)⟩
    | exit i => exact out _ (.exit i) p.k
    | goto l => exact out _ (.goto l) p.k
    | ret => exact out _ .ret p.k
    | panic h => exact out _ (.panic h) p.k

/-! ### Functions -/
inductive AOut where
  | ret (v : V)
  | pan (v : V)

inductive OutRel (E : Amb) : AOut → Ending → Prop
  | ret {v : V} {cv : Value} (h : Rep E v cv) : OutRel E (.ret v) (.returned cv)
  | pan {v : V} {cv : Value} (h : Rep E v cv) : OutRel E (.pan v) (.panicked [{ v := cv, recovered := false }])

/-- It has a Go body. -/
def Enter (P : Program) (f : FuncId) : Prop := ∃ fn, P.funcs[f]? = some fn ∧ fn.body.isNone = false ∧ (fn.name == "runtime.NumGoroutine") = false

/-- **A function's contract**: called with these values, in this part of the store, it ends so. L: the level of what it makes. -/
def AFn (C : Ctx) (f : FuncId) (args : List V) (σ : Store) (R : Nat → AOut → Store → Prop) : Prop :=
  Enter C.P f ∧ ∀ (E : Amb) (cargs : List Value) (L : Nat), StoreRel E σ → GlobRel C E → RepL E args cargs → (∀ id : Id, L ≤ id.1 → E.ι id = .unborn) →
    Calls C.P f cargs.toArray E.w fun e w' => ∃ E' o σ', E'.w = w' ∧ R L o σ' ∧ OutRel E' o e ∧ StoreRel E' σ' ∧ Grow E σ E' σ' ∧ ∀ id : Id, id.1 < L → E.ι id = .unborn → E'.ι id = .unborn

/-- Of values alone. -/
def APure (C : Ctx) (f : FuncId) (args : List V) (v : V) : Prop := AFn C f args [] fun _ o σ' => o = .ret v ∧ σ' = []

theorem afn_mono {f : FuncId} {args : List V} {σ : Store} {R R' : Nat → AOut → Store → Prop} (h : AFn C f args σ R) (hr : ∀ L o s, R L o s → R' L o s) : AFn C f args σ R' := ⟨h.1, fun E cargs L hs hg ha hL =>
  (h.2 E cargs L hs hg ha hL).mono fun _ _ ⟨E', o, σ', h1, h2, h3⟩ => ⟨E', o, σ', h1, hr _ _ _ h2, h3⟩⟩

/-- The first temporaries. -/
def argsT : Nat → List V → List (Nat × V)
  | _, [] => []
  | k, v :: vs => (k, v) :: argsT (k + 1) vs

/-- A result, as the state has it. -/
def resOne (P : Program) (s : ASt) : ResultVar → Option V
  | .tmp t => s.τ.lookup t
  | .cell a t => match s.τ.lookup a with
    | some (.ptr id off) => match s.σ.get id with
      | some (.cells _ cs) => partV P t cs off
      | _ => none
    | _ => none

def resAll (P : Program) (s : ASt) : List ResultVar → Option (List V)
  | [] => some []
  | r :: rs => (resOne P s r).bind fun v => (resAll P s rs).bind fun vs => some (v :: vs)

def resV (P : Program) (fn : Func) (s : ASt) : Option V := (resAll P s fn.results.toList).map fun vs => match vs with | [v] => v | vs => .tup vs
end
end Go.Awp

/- AWP, text 14: what is handed out no longer changes; a function out of its body. -/
namespace Go.Awp
open Go

mutual
/-- v' stands for what v stands for, once the store σ is given up. -/
inductive Frz (σ : Store) : V → V → Prop
  | refl (v : V) : Frz σ v v
  | snil : Frz σ .snil (.slice [])
  | vec {id : Id} {ver : Nat} {t : TypeId} {s : Nat} {es es' : List V} {wr : Bool} (h : σ.get id = some (.vec t s es ver wr)) (k : FrzL σ es es') : Frz σ (.vec id ver) (.slice es')
  | vsub {id : Id} {ver z lo len : Nat} {t : TypeId} {s : Nat} {es es' : List V} {wr : Bool} (h : σ.get id = some (.vec t s es ver wr)) (hz : z = s) (hl : lo + len ≤ es.length) (k : FrzL σ es es') : Frz σ (.vsub id ver z lo len) (.slice ((es'.drop lo).take len))
  | func {fn : Fn} {a a' b b' : List V} (h : FrzL σ a a') (k : FrzL σ b b') : Frz σ (.func fn a b) (.func fn a' b')
  | agg {cs cs' : List V} (h : FrzL σ cs cs') : Frz σ (.agg cs) (.agg cs')
  | tup {cs cs' : List V} (h : FrzL σ cs cs') : Frz σ (.tup cs) (.tup cs')
  | iface {t : TypeId} {v v' : V} (h : Frz σ v v') : Frz σ (.iface t v) (.iface t v')
  | cells {id : Id} {t : TypeId} {cs cs' : List V} (h : σ.get id = some (.cells t cs)) (k : FrzL σ cs cs') : Frz σ (.ptr id 0) (.rptr (.agg cs'))
  | cell {id : Id} {t : TypeId} {c c' : V} (h : σ.get id = some (.cells t [c])) (k : Frz σ c c') : Frz σ (.ptr id 0) (.rptr c')
inductive FrzL (σ : Store) : List V → List V → Prop
  | nil : FrzL σ [] []
  | cons {v v' : V} {vs vs' : List V} (h : Frz σ v v') (k : FrzL σ vs vs') : FrzL σ (v :: vs) (v' :: vs')
end

/-- The ambient once a store is given up: nothing of it changes any more. -/
def Amb.sealed (E : Amb) (σ : Store) : Amb := { E with I := fun b o => E.I b o ∨ Owned E σ b }

section
variable {E : Amb} {σ : Store}

theorem seal_le : E.Le (E.sealed σ) := ⟨fun _ _ h => .inl h, fun _ _ _ => rfl, fun _ => Loc.Le.refl _⟩

structure FrzOk (E E' : Amb) (v v' : V) : Prop where
  rep : ∀ cv, Rep E v cv → Rep E' v' cv
  cells : ∀ cvs, RepL E v.cells cvs → RepL E' v'.cells cvs
  len : v'.cells.length = v.cells.length
  ok : v.ok → v'.ok
  scal : v.scalar = true → v'.scalar = true

structure FrzLOk (E E' : Amb) (vs vs' : List V) : Prop where
  rep : ∀ cvs, RepL E vs cvs → RepL E' vs' cvs
  flat : ∀ cvs, RepL E (vs.flatMap V.cells) cvs → RepL E' (vs'.flatMap V.cells) cvs
  len : vs'.length = vs.length
  elems : ∀ s, (∀ e ∈ vs, e.cells.length = s ∧ e.ok) → ∀ e ∈ vs', e.cells.length = s ∧ e.ok
  scal : (∀ e ∈ vs, e.scalar = true) → ∀ e ∈ vs', e.scalar = true

theorem FrzOk.of_rep {E' : Amb} {v v' : V} (h : ∀ cv, Rep E v cv → Rep E' v' cv) (h1 : v.cells = [v]) (h2 : v'.cells = [v']) (h3 : v'.scalar = true) : FrzOk E E' v v' := by
  refine ⟨h, fun cvs hr => ?_, by rw [h1, h2]; rfl, fun _ c hc => ?_, fun _ => h3⟩
  · rw [h1] at hr; rw [h2]
    cases hr with | cons a b => cases b with | nil => exact .cons (h _ a) .nil
  · rw [h2] at hc; rw [List.mem_singleton.1 hc]; exact h3

theorem FrzOk.refl (v : V) : FrzOk E (E.sealed σ) v v := ⟨fun _ h => h.mono seal_le, fun _ h => h.mono seal_le, rfl, fun h => h, fun h => h⟩

theorem frz_vec (hs : ∀ id b, (id, b) ∈ σ → BlkRel E id b) {id : Id} {ver : Nat} {t : TypeId} {s : Nat} {es es' : List V} {wr : Bool} (h : σ.get id = some (.vec t s es ver wr)) (ih : FrzLOk E (E.sealed σ) es es') {cv : Value} (hr : Rep E (.vec id ver) cv) : Rep (E.sealed σ) (.slice es') cv := by
  have hm := Store.get_mem h
  obtain ⟨hv, xs, eι, rfl, hown, hxs, hes, h0, hI⟩ := vec_inv hr (hs _ _ hm)
  have hel := ih.elems s hes
  have hfl := ih.flat _ hxs
  rcases hown.2 with ⟨a, rfl, e3⟩ | ⟨g, cap, cur, hc0, rfl, hg, hcap, _, hsz, htk⟩
  · have : es' = [] := List.eq_nil_of_length_eq_zero (by rw [ih.len]; exact e3)
    subst this
    exact .slice0 _ _
  · rw [← ih.len]
    refine .slice (cvs := xs) hfl (fun j u hj => ⟨?_, .inr ⟨id, List.mem_map.2 ⟨_, hm, rfl⟩, by rw [eι]; simp [Loc.block, hblk]; omega⟩⟩) hel (by rw [ih.len]; exact hcap)
    show E.w.cell? _ = _
    unfold World.cell?
    simp only [hg, Option.isSome_none, Bool.false_eq_true, if_false, Nat.zero_add]
    rw [← htk, List.getElem?_take] at hj
    split at hj
    · simpa using hj
    · cases hj

theorem frz_ok (hs : ∀ id b, (id, b) ∈ σ → BlkRel E id b) {v v' : V} (h : Frz σ v v') : FrzOk E (E.sealed σ) v v' := by
  induction h using Frz.rec (motive_2 := fun vs vs' _ => FrzLOk E (E.sealed σ) vs vs') with
  | refl v => exact .refl v
  | snil => exact .of_rep (fun cv h => by cases h; exact .slice0 _ _) rfl rfl rfl
  | vec h k ih => exact .of_rep (fun cv hr => frz_vec hs h ih hr) rfl rfl rfl
  | @vsub id ver z lo len t s es es' wr h hz hl k ih =>
    subst hz
    refine .of_rep (fun cv hr => ?_) rfl rfl rfl
    obtain ⟨hv, xs, eι, hown, hxs, hes, h0, hI⟩ := hs _ _ (Store.get_mem h)
    cases hr with
    | vsub h1 h2 h3 =>
      rw [eι] at h1; cases h1
      obtain ⟨b, n, c0, rfl, q1, q2, q3, q4⟩ := h3 rfl
      have hwhole := frz_vec hs h ih (.vec eι (Nat.le_refl _) fun _ => rfl)
      have hn : n = es'.length := by obtain ⟨_, _, e, _⟩ := hwhole.slice_inv; injection e
      subst hn
      refine rep_piece hwhole q1 _ (by omega) _ ?_
      by_cases hl0 : len = 0
      · exact .inl hl0
      · refine .inr fun s hs' => ?_
        rw [q4 (by omega)]
        have hel := ih.elems z hes
        have : s = z := by
          cases es' with
          | nil => exact absurd (Nat.le_zero.1 (Nat.le_trans (Nat.le_add_left _ _) q1)) hl0
          | cons e0 es' => rw [← hs' e0 (by simp), (hel e0 (by simp)).1]
        rw [this]
  | func h k i1 i2 => exact .of_rep (fun cv hr => by cases hr with | func a b => exact .func (i1.rep _ a) (i2.rep _ b)) rfl rfl rfl
  | agg h ih => exact ⟨fun cv hr => by cases hr with | agg hr hsc => exact .agg (ih.rep _ hr) (ih.scal hsc), ih.rep, ih.len, fun ho => ih.scal ho, fun h => by simp [V.scalar] at h⟩
  | tup h ih => exact ⟨fun cv hr => by cases hr with | tup hr => exact .tup (ih.rep _ hr), fun cvs hr => by cases hr with | cons a b => cases b; cases a with | tup hr => exact .cons (.tup (ih.rep _ hr)) .nil, rfl, fun ho => by have := ho _ (by simp [V.cells]; rfl); simp [V.scalar] at this, fun h => by simp [V.scalar] at h⟩
  | iface h ih => exact .of_rep (fun cv hr => by cases hr with | iface hr => exact .iface (ih.rep _ hr)) rfl rfl rfl
  | @cells id t cs cs' h k ih =>
    refine .of_rep (fun cv hr => ?_) rfl rfl rfl
    have hm := Store.get_mem h
    obtain ⟨b, c, eι, hg, hcs, hsc, hI⟩ := hs _ _ hm
    obtain ⟨b', e', rfl⟩ := ptr_inv hr
    rw [eι] at e'; cases e'
    refine .rptr (v := .agg cs') (cvs := c.toList) (ih.rep _ hcs) (ih.scal hsc) fun j u hj => ⟨?_, .inr ⟨id, List.mem_map.2 ⟨_, hm, rfl⟩, by rw [eι]; rfl⟩⟩
    show E.w.cell? _ = _
    unfold World.cell?
    simp only [hg, Option.isSome_none, Bool.false_eq_true, if_false, Nat.zero_add]
    simpa using hj
  | @cell id t c c' h k ih =>
    refine .of_rep (fun cv hr => ?_) rfl rfl rfl
    have hm := Store.get_mem h
    obtain ⟨b, cc, eι, hg, hcs, hsc, hI⟩ := hs _ _ hm
    obtain ⟨b', e', rfl⟩ := ptr_inv hr
    rw [eι] at e'; cases e'
    have hc1 : c.scalar = true := hsc c (by simp)
    have hcc : c.cells = [c] := by cases c <;> first | rfl | simp [V.scalar] at hc1
    have hc2 := ih.scal hc1
    have hcc' : c'.cells = [c'] := by cases c' <;> first | rfl | simp [V.scalar] at hc2
    refine .rptr (v := c') (cvs := cc.toList) (by have := ih.cells cc.toList (by rw [hcc]; exact hcs); exact this) (fun x hx => by rw [hcc'] at hx; rw [List.mem_singleton.1 hx]; exact hc2) fun j u hj => ⟨?_, .inr ⟨id, List.mem_map.2 ⟨_, hm, rfl⟩, by rw [eι]; rfl⟩⟩
    show E.w.cell? _ = _
    unfold World.cell?
    simp only [hg, Option.isSome_none, Bool.false_eq_true, if_false, Nat.zero_add]
    simpa using hj
  | nil => exact ⟨fun _ h => h.mono seal_le, fun _ h => h.mono seal_le, rfl, fun _ h => h, fun h => h⟩
  | cons h k i1 i2 =>
    refine ⟨fun cvs hr => ?_, fun cvs hr => ?_, by simp [i2.len], fun s hs e he => ?_, fun hs e he => ?_⟩
    · cases hr with | cons a b => exact .cons (i1.rep _ a) (i2.rep _ b)
    · simp only [List.flatMap_cons] at hr ⊢
      obtain ⟨a, b, rfl, ha, hb⟩ := hr.split
      exact (i1.cells _ ha).append (i2.flat _ hb)
    · rcases List.mem_cons.1 he with rfl | he
      · have := hs _ List.mem_cons_self
        exact ⟨i1.len.trans this.1, i1.ok this.2⟩
      · exact i2.elems s (fun e he => hs e (List.mem_cons_of_mem _ he)) e he
    · rcases List.mem_cons.1 he with rfl | he
      · exact i1.scal (hs _ List.mem_cons_self)
      · exact i2.scal (fun e he => hs e (List.mem_cons_of_mem _ he)) e he

theorem frz_part {σd : Store} (hs : StoreRel E σ) (hd : ∀ x, x ∈ σd → x ∈ σ) {v v' : V} (h : Frz σd v v') (cv : Value) (hr : Rep E v cv) : Rep (E.sealed σd) v' cv :=
  (frz_ok (fun id b hm => hs.blk id b (hd _ hm)) h).rep cv hr

/-- Giving up part of the store. -/
theorem seal_store {σk σd : Store} (hs : StoreRel E σ) (hk : ∀ x, x ∈ σk → x ∈ σ) (hd : ∀ x, x ∈ σd → x ∈ σ) (hkn : σk.keys.Nodup) (hdis : ∀ id, id ∈ σk.keys → id ∉ σd.keys) :
    StoreRel (E.sealed σd) σk ∧ Grow E σ (E.sealed σd) σk := by
  have key : ∀ {t : Store}, (∀ x, x ∈ t → x ∈ σ) → ∀ id, id ∈ t.keys → id ∈ σ.keys := fun ht id hi => by
    obtain ⟨x, hx, rfl⟩ := List.mem_map.1 hi
    exact List.mem_map.2 ⟨x, ht x hx, rfl⟩
  have up : ∀ b, Owned E σd b → Owned E σ b := fun b ⟨id, hi, hb⟩ => ⟨id, key hd id hi, hb⟩
  refine ⟨⟨fun id b hb => ?_, hkn, fun i j hi hj => hs.apart i j (key hk i hi) (key hk j hj), fun b o hi => ?_, hs.fin⟩, ?_⟩
  · refine (hs.blk id b (hk _ hb)).keep seal_le rfl (fun _ _ => rfl) fun c hc o hi => ?_
    rcases hi with hi | ⟨j, hj, hcj⟩
    · exact hi
    · have hid : id ∈ σk.keys := List.mem_map.2 ⟨_, hb, rfl⟩
      exact absurd hcj (hs.apart id j (key hk id hid) (key hd j hj) (fun e => hdis id hid (e ▸ hj)) c hc)
  · rcases hi with hi | hi
    · exact hs.imm b o hi
    · exact hs.ownedLt (up b hi)
  · exact ⟨seal_le, fun _ _ _ => rfl, fun b o hi => hi.elim .inl fun h => .inr (.inr (up b h)), fun _ _ _ => rfl, fun id hi => .inl (key hk id hi), fun b ⟨id, hi, hb⟩ => .inr ⟨id, key hk id hi, hb⟩, rfl, rfl, rfl, Nat.le_refl _⟩
end

section
variable {C : Ctx}

theorem argsT_lookup {E : Amb} {vs : List V} {cvs : List Value} (h : RepL E vs cvs) (rest : List Value) : ∀ (k t : Nat) (pre : List Value) (v : V), pre.length = k → (argsT k vs).lookup t = some v →
    Rep E v ((pre ++ cvs ++ rest).getD t undef) := by
  induction vs generalizing cvs with
  | nil => intro k t pre v _ h; simp [argsT] at h
  | cons x vs ih =>
    intro k t pre v hp hl
    cases h with
    | @cons _ c _ cs hx hr =>
      simp only [argsT, List.lookup_cons] at hl
      split at hl
      · rename_i e
        have e := eq_of_beq e
        cases hl
        subst e
        have : (pre ++ c :: cs ++ rest)[t]? = some c := by
          rw [List.append_assoc, List.getElem?_append_right (by omega), hp, Nat.sub_self]; rfl
        rw [List.getD_eq_getElem?_getD, this]
        exact hx
      · have := ih hr (k + 1) t (pre ++ [c]) v (by simp [hp]) hl
        simpa using this

theorem resOne_run {s : ASt} {E : Amb} {a : Act} (hr : Rel C s E a) {r : ResultVar} {v : V} (h : resOne C.P s r = some v) :
    ∃ cv, (match r with | .tmp t => Pure.pure (a.tmps.getD t undef) | .cell x t => do loadVar t (← asAddr (a.tmps.getD x undef)) : Sem Value).run C.P E.w = .ok cv E.w ∧ Rep E v cv := by
  cases r with
  | tmp t => exact ⟨_, rfl, hr.tmp t v h⟩
  | cell x t =>
    simp only [resOne] at h
    split at h
    · rename_i id off hl
      split at h
      · rename_i t' cs hg
        have hp := hr.tmp _ _ hl
        obtain ⟨b, e, hrd⟩ := (hr.store.blk _ _ (Store.get_mem hg)).reads hp
        obtain ⟨cv, h1, h2⟩ := reads_load (P := C.P) hrd h
        refine ⟨cv, ?_, h2⟩
        simp only [e, asAddr, Sem.run_bind, Sem.run_pure, Result.andThen_ok]
        simpa [Instr.loadAt, Instr.sureAddr] using h1
      · cases h
    · cases h

theorem resAll_run {s : ASt} {E : Amb} {a : Act} (hr : Rel C s E a) {rs : List ResultVar} {vs : List V} (h : resAll C.P s rs = some vs) :
    ∃ cvs, (rs.mapM fun r => match r with | .tmp t => Pure.pure (a.tmps.getD t undef) | .cell x t => do loadVar t (← asAddr (a.tmps.getD x undef)) : Sem (List Value)).run C.P E.w = .ok cvs E.w ∧ RepL E vs cvs := by
  induction rs generalizing vs with
  | nil => simp [resAll] at h; subst h; exact ⟨[], rfl, .nil⟩
  | cons r rs ih =>
    simp only [resAll] at h
    obtain ⟨v, hv, h1⟩ := Option.bind_eq_some_iff.1 h
    obtain ⟨us, hu, h2⟩ := Option.bind_eq_some_iff.1 h1
    cases h2
    obtain ⟨c, r1, r2⟩ := resOne_run hr hv
    obtain ⟨cs, r3, r4⟩ := ih hu
    refine ⟨c :: cs, ?_, .cons r2 r4⟩
    rw [List.mapM_cons, Sem.run_bind, r1]
    simp only [Result.andThen_ok, Sem.run_bind, r3, Sem.run_pure]

theorem resV_run {s : ASt} {E : Amb} {a : Act} {fn : Func} (hr : Rel C s E a) {v : V} (h : resV C.P fn s = some v) : ∃ cv, (results fn a.tmps).run C.P E.w = .ok cv E.w ∧ Rep E v cv := by
  unfold resV at h
  obtain ⟨vs, hvs, rfl⟩ := Option.map_eq_some_iff.1 h
  obtain ⟨cvs, h1, h2⟩ := resAll_run hr hvs
  have hm : (fn.results.mapM fun r => match r with | .tmp t => Pure.pure (a.tmps.getD t undef) | .cell x t => do loadVar t (← asAddr (a.tmps.getD x undef)) : Sem (Array Value)).run C.P E.w = .ok cvs.toArray E.w := by
    rw [Array.mapM_eq_mapM_toList, map_eq_pure_bind, Sem.run_bind, h1]
    rfl
  refine ⟨if h : cvs.toArray.size = 1 then cvs.toArray[0] else .tuple cvs.toArray, ?_, ?_⟩
  · unfold results
    rw [Sem.run_bind]
    exact congrArg (fun r => Result.andThen r fun a w' => Sem.run C.P (Pure.pure (if h : a.size = 1 then a[0] else Value.tuple a)) w') hm
  · cases h2 with
    | nil => exact .tup .nil
    | cons x t =>
      cases t with
      | nil => simpa using x
      | cons y t => simpa using Rep.tup (.cons x (.cons y t))

/-- What a function's body must come to. -/
def Ends (C : Ctx) (fn : Func) (L : Nat) (R : Nat → AOut → Store → Prop) : AExit → ASt → Prop
  | .normal, s | .ret, s => ∃ v v' σd σk, resV C.P fn s = some v ∧ (∀ x, x ∈ σk → x ∈ s.σ) ∧ (∀ x, x ∈ σd → x ∈ s.σ) ∧ (Store.keys σk).Nodup ∧ (∀ id, id ∈ Store.keys σk → id ∉ Store.keys σd) ∧ Frz σd v v' ∧ R L (.ret v') σk
  | .panic v, s => ∃ v' σd σk, (∀ x, x ∈ σk → x ∈ s.σ) ∧ (∀ x, x ∈ σd → x ∈ s.σ) ∧ (Store.keys σk).Nodup ∧ (∀ id, id ∈ Store.keys σk → id ∉ Store.keys σd) ∧ Frz σd v v' ∧ R L (.pan v') σk
  | _, _ => False

/-- **A contract out of a body.** -/
theorem afn_of {f : FuncId} {fn : Func} {c : Code} {args : List V} {σ : Store} {R : Nat → AOut → Store → Prop} (hf : C.P.funcs[f]? = some fn) (hb : fn.body = some c) (hname : (fn.name == "runtime.NumGoroutine") = false) (hn : args.length ≤ fn.ntmps)
    (h : ∀ L, (∀ id, id ∈ σ.keys → id.1 < L) → AW C c (Ends C fn L R) ⟨argsT 0 args, σ, fn.ntmps, L, 0⟩) : AFn C f args σ R := ⟨⟨fn, hf, by rw [hb]; rfl, hname⟩, fun E cargs L hs hg ha hL => by
  refine calls_of_wp hf hb ?_
  have hlen : cargs.length = args.length := ha.length
  have hkeys : ∀ id, id ∈ σ.keys → id.1 < L := fun id hi => by
    obtain ⟨k, _, hk⟩ := hs.mem hi
    exact Nat.lt_of_not_le fun hle => hk.born (hL id hle)
  have hrel : Rel C ⟨argsT 0 args, σ, fn.ntmps, L, 0⟩ E { tmps := cargs.toArray ++ Array.replicate (fn.ntmps - cargs.toArray.size) undef, defers := [] } := by
    refine ⟨fun t v hv => ?_, by simp; omega, hs, fun k _ => hL (L, k) (Nat.le_refl _), hg⟩
    have := argsT_lookup ha (List.replicate (fn.ntmps - cargs.length) undef) 0 t [] v rfl hv
    have e : (cargs.toArray ++ Array.replicate (fn.ntmps - cargs.toArray.size) undef) = ([] ++ cargs ++ List.replicate (fn.ntmps - cargs.length) undef).toArray := by
      apply Array.ext'; simp
    rw [e]
    simpa [Array.getD_eq_getD_getElem?, List.getD_eq_getElem?_getD] using this
  refine wp_mono (h L hkeys E _ hrel) ?_
  rintro e a' w' ⟨E', ae, s', p⟩
  have hd := p.defers
  have hk := p.k
  have hx := p.exit
  have fin : ∀ {σd σk : Store}, (∀ x, x ∈ σk → x ∈ s'.σ) → (∀ x, x ∈ σd → x ∈ s'.σ) → σk.keys.Nodup → (∀ id, id ∈ σk.keys → id ∉ σd.keys) →
      StoreRel (E'.sealed σd) σk ∧ Grow E σ (E'.sealed σd) σk ∧ ∀ id : Id, id.1 < L → E.ι id = .unborn → (E'.sealed σd).ι id = .unborn := fun h1 h2 h3 h4 => by
    obtain ⟨q1, q2⟩ := seal_store p.rel.store h1 h2 h3 h4
    exact ⟨q1, p.grow.trans q2, p.born⟩
  have ret : ∀ v v' σd σk, resV C.P fn s' = some v → (∀ x, x ∈ σk → x ∈ s'.σ) → (∀ x, x ∈ σd → x ∈ s'.σ) → (Store.keys σk).Nodup → (∀ id, id ∈ Store.keys σk → id ∉ Store.keys σd) → Frz σd v v' → R L (.ret v') σk →
      a'.defers = [] ∧ ∃ v, (results fn a'.tmps).run C.P w' = .ok v w' ∧ ∃ E' o σ', E'.w = w' ∧ R L o σ' ∧ OutRel E' o (.returned v) ∧ StoreRel E' σ' ∧ Grow E σ E' σ' ∧ ∀ id : Id, id.1 < L → E.ι id = .unborn → E'.ι id = .unborn := by
    intro v v' σd σk h1 h2 h3 h4 h5 h6 h7
    obtain ⟨cv, r1, r2⟩ := resV_run p.rel h1
    rw [p.w] at r1
    obtain ⟨f1, f2, f3⟩ := fin h2 h3 h4 h5
    exact ⟨hd, cv, r1, E'.sealed σd, _, σk, p.w, h7, .ret (frz_part p.rel.store h3 h6 cv r2), f1, f2, f3⟩
  cases hx with
  | normal =>
    obtain ⟨v, v', σd, σk, h1, h2, h3, h4, h5, h6, h7⟩ := hk
    exact ret v v' σd σk h1 h2 h3 h4 h5 h6 h7
  | ret =>
    obtain ⟨v, v', σd, σk, h1, h2, h3, h4, h5, h6, h7⟩ := hk
    exact ret v v' σd σk h1 h2 h3 h4 h5 h6 h7
  | exit => exact hk.elim
  | goto => exact hk.elim
  | panic hv =>
    obtain ⟨v', σd, σk, h2, h3, h4, h5, h6, h7⟩ := hk
    obtain ⟨f1, f2, f3⟩ := fin h2 h3 h4 h5
    exact ⟨hd, E'.sealed σd, _, σk, p.w, h7, .pan (frz_part p.rel.store h3 h6 _ hv), f1, f2, f3⟩⟩
end
end Go.Awp

/- AWP, text 15: a statement's operations, one behind the other. -/
namespace Go.Awp
open Go

def guardA (ops : Array Oper) (τ : List (Nat × V)) (o : Oper) : Option Bool :=
  match o.guard with
  | none => some true
  | some (j, want) => match (ops[j]?).bind (·.dst) with
    | some t => match τ.lookup t with
      | some (.bool b) => some (b == want)
      | some (.tup []) => some false
      | _ => none
    | none => none

def dstOk (n : Nat) : Option Tmp → Bool
  | none => true
  | some t => decide (t < n)

def ASt.putD (s : ASt) (dst : Option Tmp) (v : V) : ASt :=
  match dst with
  | none => s
  | some t => { s with τ := (t, v) :: s.τ }

def ASt.next (s : ASt) (nw : Bool) : ASt := { s with nx := if nw = true then s.nx + 1 else s.nx }

theorem next_false (s : ASt) : s.next false = s := rfl

def opA (P : Program) (lk : Operand → Option V) (get : Id → Option Blk) (j : Id) (op : Op) : Option (V × Upd) :=
  match pureOp P lk op with
  | some v => some (v, .none)
  | none => match storeOp P lk get j op with
    | some r => some r
    | none => match subOp P lk get op with
      | some r => some r
      | none => vecOp P lk get j op

def opK (r : Option (V × Upd)) (K : V → Upd → Prop) : Prop := ∃ v u, r = some (v, u) ∧ K v u

theorem opK_some {v : V} {u : Upd} {K : V → Upd → Prop} : opK (some (v, u)) K = K v u := by
  apply propext
  exact ⟨fun ⟨_, _, h, k⟩ => by cases h; exact k, fun h => ⟨v, u, rfl, h⟩⟩

/-- A call of a Go function, out of a state. -/
def ACall (C : Ctx) (f : FuncId) (args : List V) (s : ASt) (K X : V → Store → Prop) : Prop :=
  Enter C.P f ∧ ∀ E cargs, StoreRel E s.σ → GlobRel C E → RepL E args cargs →
    Calls C.P f cargs.toArray E.w fun e w' => ∃ E', E'.w = w' ∧ (∀ id : Id, id.1 ≤ s.lv → E.ι id = .unborn → E'.ι id = .unborn) ∧
      ((∃ v cv σ', e = .returned cv ∧ Rep E' v cv ∧ K v σ' ∧ StoreRel E' σ' ∧ Grow E s.σ E' σ') ∨
       (∃ v cv σ', e = .panicked [{ v := cv, recovered := false }] ∧ Rep E' v cv ∧ X v σ' ∧ StoreRel E' σ' ∧ Grow E s.σ E' σ'))

mutual
/-- It refers to no memory. -/
def V.flat : V → Bool
  | .bool _ | .int _ _ | .float _ _ | .cplx _ _ _ | .str _ | .nilp | .snil | .nilf | .nili => true
  | .iface _ v => v.flat
  | .agg cs => V.flatL cs
  | .tup cs => V.flatL cs
  | .func _ a b => V.flatL a && V.flatL b
  | _ => false
def V.flatL : List V → Bool
  | [] => true
  | v :: vs => v.flat && V.flatL vs
end

/-- The store whose entries of these ids are to be fixed. -/
def Store.only (σ : Store) (ids : List Id) : Store := σ.filter fun x => ids.contains x.1

/-- A call by a contract of values, that at most looks at some slices of one's own. -/
def QuietC (C : Ctx) (f : FuncId) (args : List V) (s : ASt) (K : V → Store → Prop) : Prop :=
  ∃ args' v ids, APure C f args' v ∧ FrzL (Store.only s.σ ids) args args' ∧ (args' = args ∨ v.flat = true) ∧ K v s.σ

/-- The call that a statement waits for: a quiet one where it draws its order. -/
def ACallQ (C : Ctx) : Bool → FuncId → List V → ASt → (V → Store → Prop) → (V → Store → Prop) → Prop
  | true, f, args, s, K, _ => QuietC C f args s K
  | false, f, args, s, K, X => ACall C f args s K X

def callS (C : Ctx) (q : Bool) (fv : Option V) (vs : Option (List V)) (s : ASt) (K X : V → Store → Prop) : Prop :=
  ∃ f cap args, fv = some (.func (.func f) [] cap) ∧ vs = some args ∧ ACallQ C q f (args ++ cap) s K X

theorem callS_some {C : Ctx} {q : Bool} {f : FuncId} {cap args : List V} {s : ASt} {K X : V → Store → Prop} : callS C q (some (.func (.func f) [] cap)) (some args) s K X = ACallQ C q f (args ++ cap) s K X := by
  apply propext
  exact ⟨fun ⟨_, _, _, h1, h2, k⟩ => by cases h1; cases h2; exact k, fun h => ⟨f, cap, args, rfl, rfl, h⟩⟩

def plainS (C : Ctx) (o : Oper) (s : ASt) (K : ASt → Prop) : Prop :=
  dstOk s.n o.dst = true ∧ opK (opA C.P (lkA C s.τ) s.σ.get (s.lv, s.nx) o.op) fun v u => K ((({ s with σ := u.app s.σ (s.lv, s.nx) } : ASt).next u.isNew).putD o.dst v)

/-- A literal slice that is one's own. -/
def litS (C : Ctx) (dst : Option Tmp) (t len : Nat) (ps : List (Nat × Operand)) (s : ASt) (K : ASt → Prop) : Prop :=
  dstOk s.n dst = true ∧ opK (litR C.P (lkA C s.τ) (s.lv, s.nx) t len ps) fun v u => K ((({ s with σ := u.app s.σ (s.lv, s.nx) } : ASt).next u.isNew).putD dst v)

def stepS (C : Ctx) (q : Bool) (o : Oper) (s : ASt) (K : ASt → Prop) (X : V → ASt → Prop) : Prop :=
  match o.op with
  | .call c => match c.callee with
    | .value f => dstOk s.n o.dst = true ∧ callS C q (lkA C s.τ f) (allV (lkA C s.τ) c.args.toList) s (fun v σ' => K (({ s with σ := σ' } : ASt).putD o.dst v)) (fun v σ' => X v { s with σ := σ' })
    | _ => plainS C o s K
  | .buildSlice t len ps => if (C.own.contains t && !q) = true then litS C o.dst t len ps.toList s K else plainS C o s K
  | _ => plainS C o s K

/-- A test: both ways. -/
def Br (b : Bool) (p q : Prop) : Prop := (b = true → p) ∧ (b = false → q)

def guardK (g : Option Bool) (p q : Prop) : Prop :=
  match g with
  | some b => Br b p q
  | none => False

def runS (C : Ctx) (q : Bool) (ops : Array Oper) : List Oper → ASt → (ASt → Prop) → (V → ASt → Prop) → Prop
  | [], s, K, _ => K s
  | o :: r, s, K, X =>
    guardK (guardA ops s.τ o) (stepS C q o s (fun s' => runS C q ops r s' K X) X) (dstOk s.n o.dst = true ∧ runS C q ops r (s.putD o.dst (.tup [])) K X)

section
variable {C : Ctx} {ops : Array Oper}

theorem guardA_wanted {s : ASt} {E : Amb} {a : Act} (hr : Rel C s E a) {o : Oper} {b : Bool} (h : guardA ops s.τ o = some b) : Region.wanted o (yielded ops a.tmps) = b := by
  unfold guardA at h
  unfold Region.wanted
  split at h
  · rename_i e; cases h; rw [e]
  · rename_i j want e
    rw [e]
    split at h
    · rename_i t ht
      split at h
      · rename_i bb hl
        cases h
        have hrep := hr.tmp t _ hl
        have : a.tmps.getD t undef = .bool bb := by revert hrep; generalize a.tmps.getD t undef = y; intro hy; cases hy; rfl
        have h2 : a.tmps[t]? = some (.bool bb) := by
          rw [Array.getD_eq_getD_getElem?] at this
          cases h3 : a.tmps[t]? with
          | none => rw [h3] at this; simp [undef] at this
          | some y => rw [h3] at this; simp at this; rw [this]
        have hy : yielded ops a.tmps j = some bb := by unfold yielded; rw [ht]; simp [h2]
        show (yielded ops a.tmps j == some want) = _
        rw [hy]; rfl
      · rename_i hl
        cases h
        have hrep := hr.tmp t _ hl
        have : a.tmps.getD t undef = .tuple #[] := by
          revert hrep; generalize a.tmps.getD t undef = y; intro hy
          cases hy with | tup h => cases h; rfl
        have hy : yielded ops a.tmps j = none := by
          unfold yielded; rw [ht]
          rw [Array.getD_eq_getD_getElem?] at this
          simp only [Option.bind_some]
          cases h3 : a.tmps[t]? with
          | none => rfl
          | some y => rw [h3] at this; simp at this; rw [this]
        show (yielded ops a.tmps j == some want) = _
        rw [hy]; rfl
      · cases h
    · cases h

theorem Rel.put {s : ASt} {E : Amb} {a : Act} (hr : Rel C s E a) {dst : Option Tmp} {v : V} {cv : Value} (hd : dstOk s.n dst = true) (hv : Rep E v cv) : Rel C (s.putD dst v) E (a.put dst cv) := by
  cases dst with
  | none => exact hr
  | some t =>
    simp [dstOk] at hd
    refine ⟨fun u w hw => ?_, by simp only [Act.put, ASt.putD, Array.size_setIfInBounds]; exact hr.size, hr.store, hr.own, hr.glob⟩
    simp only [ASt.putD, List.lookup_cons] at hw
    simp only [Act.put]
    split at hw
    · rename_i e
      have e := eq_of_beq e
      cases hw
      subst e
      rw [Array.getD_eq_getD_getElem?, Array.getElem?_setIfInBounds_self_of_lt (by rw [hr.size]; exact hd)]
      exact hv
    · rename_i e
      have hne : t ≠ u := fun e' => by simp [e'] at e
      rw [Array.getD_eq_getD_getElem?, Array.getElem?_setIfInBounds_ne hne, ← Array.getD_eq_getD_getElem?]
      exact hr.tmp u w hw

theorem opA_ok {o : Oper} {lk : Operand → Option V} {σ : Store} {j : Id} {v : V} {u : Upd} (h : opA C.P lk σ.get j o.op = some (v, u)) : OpOk C.P o lk σ j v (u.app σ j) u.isNew := by
  unfold opA at h
  split at h
  · rename_i e; cases h; exact .pure e
  · split at h
    · rename_i r e; cases h; exact .store e
    · split at h
      · rename_i r e; cases h; exact .sub e
      · exact .vec h

theorem putD_lv (s : ASt) (d : Option Tmp) (v : V) : (s.putD d v).lv = s.lv ∧ (s.putD d v).σ = s.σ ∧ (s.putD d v).n = s.n ∧ (s.putD d v).nx = s.nx := by
  cases d <;> exact ⟨rfl, rfl, rfl, rfl⟩

theorem runS_sound {K : AExit → ASt → Prop} {s₀ : ASt} {E₀ : Amb} {a₀ : Act} : ∀ (l : List Oper) (k : Nat) (s : ASt) (E : Amb) (a : Act), (∀ j, l[j]? = ops[k + j]?) → Rel C s E a → Grow E₀ s₀.σ E s.σ → a.defers = a₀.defers → s.lv = s₀.lv →
    (∀ id : Id, id.1 < s₀.lv → E₀.ι id = .unborn → E.ι id = .unborn) → runS C false ops l s (K .normal) (fun v => K (.panic v)) →
    wpOps C.P ops (fun e a' w' => ∃ E' ae s', Post C K s₀ E₀ a₀ e a' w' E' ae s') (List.range' k l.length) a E.w
  | [], k, s, E, a, _, hr, hg, hd, hl, hb, h => by
    simp only [runS] at h
    exact ⟨E, .normal, s, rfl, .normal, h, hr, hg, hd, hl, hb⟩
  | o :: l, k, s, E, a, hops, hr, hg, hd, hl, hb, h => by
    have ho : ops[k]? = some o := by have := hops 0; simpa using this.symm
    have hops' : ∀ j, l[j]? = ops[k + 1 + j]? := fun j => by have := hops (j + 1); simpa [Nat.add_assoc, Nat.add_comm 1 j] using this
    rw [List.length_cons, List.range'_succ, wpOps_cons]
    unfold wpOp
    simp only [ho]
    unfold runS guardK at h
    have hnext : ∀ {s1 : ASt} {E1 : Amb} {cv : Value} {v : V} {nw : Bool}, StoreRel E1 s1.σ → E.Le E1 → GlobRel C E → s1.τ = s.τ → s1.n = s.n → s1.lv = s.lv → s1.nx = s.nx → (∀ id, id.1 ≤ s.lv → (nw = true → id ≠ (s.lv, s.nx)) → E.ι id = .unborn → E1.ι id = .unborn) → dstOk s.n o.dst = true → Rep E1 v cv →
        Rel C ((s1.next nw).putD o.dst v) E1 (a.put o.dst cv) := by
      intro s1 E1 cv v nw hs hle hgl ht hn hlv hnx hb' hdo hv
      refine Rel.put (s := s1.next nw) ⟨fun t u hu => ?_, by show a.tmps.size = s1.n; rw [hn]; exact hr.size, hs, fun q hq => ?_, hgl.mono hle⟩ (by show dstOk s1.n _ = true; rw [hn]; exact hdo) hv
      · have hu : s1.τ.lookup t = some u := hu
        rw [ht] at hu
        exact (hr.tmp t u hu).mono hle
      · have hq : (if nw = true then s1.nx + 1 else s1.nx) ≤ q := hq
        rw [hnx] at hq
        show E1.ι (s1.lv, q) = .unborn
        rw [hlv]
        exact hb' (s.lv, q) (Nat.le_refl _) (fun hn e => by rw [if_pos hn] at hq; cases e; omega) (hr.own q (by split at hq <;> omega))
    split at h
    case h_2 => exact h.elim
    rename_i gb hga
    obtain ⟨hyes, hno⟩ := h
    cases gb
    · have h := hno rfl
      clear hyes hno
      rw [if_neg (by rw [guardA_wanted hr hga]; simp)]
      have hn := hnext (s1 := s) (E1 := E) (cv := undef) (v := .tup []) (nw := false) hr.store (Amb.Le.refl E) hr.glob rfl rfl rfl rfl (fun _ _ _ h => h) h.1 (.tup .nil)
      rw [next_false] at hn
      have hp := putD_lv s o.dst (.tup [])
      refine runS_sound l (k + 1) _ E _ hops' hn (by rw [hp.2.1]; exact hg) (by cases o.dst <;> exact hd) (by rw [hp.1]; exact hl) hb h.2
    · have h := hyes rfl
      clear hyes hno
      rw [if_pos (guardA_wanted hr hga)]
      left
      have any : dstOk s.n o.dst = true → ∀ (v : V) (u : Upd), OpOk C.P o (lkA C s.τ) s.σ (s.lv, s.nx) v (u.app s.σ (s.lv, s.nx)) u.isNew → runS C false ops l ((({ s with σ := u.app s.σ (s.lv, s.nx) } : ASt).next u.isNew).putD o.dst v) (K .normal) (fun v => K (.panic v)) → o.wp C.P a E.w (wpOps C.P ops (fun e a' w' => ∃ E' ae s', Post C K s₀ E₀ a₀ e a' w' E' ae s') (List.range' (k + 1) l.length)) (fun e a' w' => ∃ E' ae s', Post C K s₀ E₀ a₀ e a' w' E' ae s') := by
        intro hdo v u hop hk
        obtain ⟨E1, cv, hrun, hv, hs1, hg1, hb1⟩ := hop E a.eval hr.store (hr.own s.nx (Nat.le_refl _)) (fun x _ u hu => lkA_rep hr hu)
        have hn := hnext (s1 := { s with σ := u.app s.σ (s.lv, s.nx) }) hs1 hg1.le hr.glob rfl rfl rfl rfl (nw := u.isNew) (fun id _ hne hu => hb1 id hne hu) hdo hv
        have hp := putD_lv (({ s with σ := u.app s.σ (s.lv, s.nx) } : ASt).next u.isNew) o.dst v
        have rest := runS_sound l (k + 1) _ E1 _ hops' hn (by rw [hp.2.1]; exact hg.trans hg1) (by cases o.dst <;> exact hd) (by rw [hp.1]; exact hl) (fun id hi hu => hb1 id (fun _ e => by subst e; simp only at hi; omega) (hb id hi hu)) hk
        unfold Oper.wp
        rcases hrun with hrun | ⟨hrun, rfl⟩ <;> rw [hrun] <;> exact rest
      have plain : plainS C o s (fun s' => runS C false ops l s' (K .normal) (fun v => K (.panic v))) → o.wp C.P a E.w (wpOps C.P ops (fun e a' w' => ∃ E' ae s', Post C K s₀ E₀ a₀ e a' w' E' ae s') (List.range' (k + 1) l.length)) (fun e a' w' => ∃ E' ae s', Post C K s₀ E₀ a₀ e a' w' E' ae s') := by
        rintro ⟨hdo, v, u, hop, hk⟩
        exact any hdo v u (opA_ok hop) hk
      unfold stepS at h
      split at h
      · rename_i c hc
        split at h
        · rename_i f hf
          obtain ⟨hdo, fn, cap, args, hfv, hvs, hcall⟩ := h
          have hff := lkA_rep hr hfv
          have hargs := allV_rep hvs fun x _ v hv => lkA_rep hr hv
          obtain ⟨cs, hcf, hcap⟩ : ∃ cs, a.eval f = .func (.func fn) #[] (List.toArray cs) ∧ RepL E cap cs := by
            revert hff; generalize a.eval f = y; intro hy
            cases hy with | func h1 h2 => cases h1; exact ⟨_, rfl, h2⟩
          obtain ⟨⟨fd, hfd, hbody, hname⟩, hcall⟩ := hcall
          have hcalls := hcall E _ hr.store hr.glob (hargs.append hcap)
          have hrun : (execOp a.eval o).run C.P E.w = .ok (.enter fn (c.args.toList.map a.eval ++ cs).toArray) E.w := by
            have e : c.args.map a.eval ++ cs.toArray = (c.args.toList.map a.eval ++ cs).toArray := by rw [← toArray_map]; simp
            have e2 : (#[] : Array Value) ++ c.args.map a.eval ++ cs.toArray = (c.args.toList.map a.eval ++ cs).toArray := by rw [← e]; simp
            simp only [execOp, hc, resolve, hf, Sem.run_bind, Sem.run_pure, Result.andThen_ok, hcf, Deferred.ofValue, invoke, e2]
            generalize (c.args.toList.map a.eval ++ cs).toArray = ar
            have hn' : ¬ fd.name = "runtime.NumGoroutine" := fun e => by rw [e] at hname; simp at hname
            have hb' : ¬ fd.body = none := fun e => by rw [e] at hbody; cases hbody
            simp [callFunc, hfd, hn', hb']
          unfold Oper.wp
          rw [hrun]
          refine Calls.mono hcalls ?_
          rintro e w' ⟨E1, rfl, hb1, hres⟩
          rcases hres with ⟨v, cv, σ', rfl, hv, hk, hs1, hg1⟩ | ⟨v, cv, σ', rfl, hv, hk, hs1, hg1⟩
          · have hn := hnext (s1 := { s with σ := σ' }) hs1 hg1.le hr.glob rfl rfl rfl rfl (nw := false) (fun id hi _ hu => hb1 id hi hu) hdo hv
            rw [next_false] at hn
            have hp := putD_lv ({ s with σ := σ' } : ASt) o.dst v
            exact runS_sound l (k + 1) _ E1 _ hops' hn (by rw [hp.2.1]; exact hg.trans hg1) (by cases o.dst <;> exact hd) (by rw [hp.1]; exact hl) (fun id hi hu => hb1 id (by omega) (hb id hi hu)) hk
          · refine ⟨E1, .panic v, { s with σ := σ' }, rfl, .panic hv, hk, ⟨fun t u hu => (hr.tmp t u hu).mono hg1.le, hr.size, hs1, fun q hq => hb1 (s.lv, q) (Nat.le_refl _) (hr.own q hq), hr.glob.mono hg1.le⟩, hg.trans hg1, hd, hl, fun id hi hu => hb1 id (by omega) (hb id hi hu)⟩
        · exact plain h
      · rename_i t len ps hop
        split at h
        · obtain ⟨hdo, v, u, hr', hk⟩ := h
          exact any hdo v u (.lit hop hr') hk
        · exact plain h
      · exact plain h

/-- **A statement's operations, in their order.** -/
theorem aw_region {id : Nat} {K : AExit → ASt → Prop} {s : ASt} (h : runS C false ops ops.toList s (K .normal) (fun v => K (.panic v))) : AW C (.region id ops false) K s := fun E a hr => by
  refine wp_region ?_
  have := runS_sound (C := C) (ops := ops) (K := K) (s₀ := s) (E₀ := E) (a₀ := a) ops.toList 0 s E a (fun j => by simp) hr (Grow.refl _ _) rfl rfl (fun _ _ h => h) h
  rw [Array.length_toList, ← List.range_eq_range'] at this
  exact this
end
end Go.Awp

/- AWP, text 16: calls out of contracts. -/
namespace Go.Awp
open Go


section
variable {C : Ctx} {E E' : Amb}

theorem Rep.flat {v : V} {cv : Value} (h : Rep E v cv) (hf : v.flat = true) : Rep E' v cv := by
  revert hf
  induction h using Rep.rec (motive_2 := fun vs cvs _ => V.flatL vs = true → RepL E' vs cvs) with
  | bool => intro _; exact .bool _
  | int => intro _; exact .int _ _
  | float => intro _; exact .float _ _
  | cplx => intro _; exact .cplx _ _ _
  | str => intro _; exact .str _
  | nilp => intro _; exact .nilp
  | snil => intro _; exact .snil _
  | nilf => intro _; exact .nilf
  | nili => intro _; exact .nili
  | func h1 h2 i1 i2 => intro hf; simp [V.flat] at hf; exact .func (i1 hf.1) (i2 hf.2)
  | iface h ih => intro hf; simp [V.flat] at hf; exact .iface (ih hf)
  | agg h hs ih => intro hf; simp [V.flat] at hf; exact .agg (ih hf) hs
  | tup h ih => intro hf; simp [V.flat] at hf; exact .tup (ih hf)
  | nil => exact .nil
  | cons h t i1 i2 => rename_i hf; simp [V.flatL] at hf; exact .cons (i1 hf.1) (i2 hf.2)
  | _ => intro hf; simp [V.flat] at hf

/-- What is left of a store. -/
def Store.less (σ s : Store) : Store := σ.filter fun x => !(Store.keys s).contains x.1

theorem Store.mem_less {σ s : Store} {x : Id × Blk} : x ∈ σ.less s ↔ x ∈ σ ∧ x.1 ∉ Store.keys s := by
  unfold Store.less
  rw [List.mem_filter]
  simp

theorem Store.less_nil (σ : Store) : σ.less [] = σ := by
  unfold Store.less
  rw [List.filter_eq_self]
  intro x _; rfl

theorem Store.less_nodup {σ s : Store} (h : σ.keys.Nodup) : (σ.less s).keys.Nodup := by
  unfold Store.less Store.keys
  exact List.Sublist.nodup (List.Sublist.map _ List.filter_sublist) h

theorem fresh_level (hs : ∃ N, ∀ id : Id, N ≤ id.1 → E.ι id = .unborn) (lv : Nat) : ∃ L, lv < L ∧ ∀ id : Id, L ≤ id.1 → E.ι id = .unborn := by
  obtain ⟨N, hN⟩ := hs
  exact ⟨max N (lv + 1), by omega, fun id hi => hN id (by omega)⟩

/-- **A call by contract**, on part of the store. -/
theorem acall_of {f : FuncId} {args : List V} {s : ASt} {K X : V → Store → Prop} {σin : Store} {R : Nat → AOut → Store → Prop} (h : AFn C f args σin R) (hs : ∀ x, x ∈ σin → x ∈ s.σ) (hn : σin.keys.Nodup)
    (hk : ∀ L o σ', s.lv < L → (∀ id, id ∈ s.σ.keys → id.1 < L) → R L o σ' → match o with | .ret v => K v (σ' ++ s.σ.less σin) | .pan v => X v (σ' ++ s.σ.less σin)) : ACall C f args s K X := by
  refine ⟨h.1, fun E cargs hst hg ha => ?_⟩
  obtain ⟨L, hlv, hL⟩ := fresh_level hst.fin s.lv
  have hkeys : ∀ id, id ∈ s.σ.keys → id.1 < L := fun id hi => by
    obtain ⟨k, _, hk⟩ := hst.mem hi
    exact Nat.lt_of_not_le fun hle => hk.born (hL id hle)
  refine (h.2 E cargs L (hst.part hs hn) hg ha hL).mono ?_
  rintro e w' ⟨E', o, σ', hw, hR, ho, hs', hg', hb⟩
  obtain ⟨f1, f2⟩ := frame hst hs (fun x hx => (Store.mem_less.1 hx).1) (fun id hi => by
    obtain ⟨x, hx, rfl⟩ := List.mem_map.1 hi
    exact (Store.mem_less.1 hx).2) (Store.less_nodup hst.nodup) hs' hg'
  have hk' := hk L o σ' hlv hkeys hR
  refine ⟨E', hw, fun id hi hu => hb id (by omega) hu, ?_⟩
  cases ho with
  | ret hv => exact .inl ⟨_, _, _, rfl, hv, hk', f1, f2⟩
  | pan hv => exact .inr ⟨_, _, _, rfl, hv, hk', f1, f2⟩

theorem acall_pure {f : FuncId} {args : List V} {s : ASt} {K X : V → Store → Prop} {v : V} (h : APure C f args v) (hk : K v s.σ) : ACall C f args s K X := by
  refine acall_of h (by simp) (by simp [Store.keys]) ?_
  rintro L o σ' _ _ ⟨rfl, rfl⟩
  simpa [Store.less_nil] using hk

theorem frzL_rep {σ : Store} (hs : ∀ id b, (id, b) ∈ σ → BlkRel E id b) {vs vs' : List V} (h : FrzL σ vs vs') {cvs : List Value} (hr : RepL E vs cvs) : RepL (E.sealed σ) vs' cvs := by
  induction vs generalizing vs' cvs with
  | nil => cases h; cases hr; exact .nil
  | cons v vs ih =>
    cases h with | cons a b =>
    cases hr with | cons c d => exact .cons ((frz_ok hs a).rep _ c) (ih b d)

/-- A call that only looks at slices of one's own, and hands back nothing of them. -/
theorem acall_borrow {f : FuncId} {args args' : List V} {s : ASt} {K X : V → Store → Prop} {v : V} (h : APure C f args' v) (hz : FrzL s.σ args args') (hf : v.flat = true) (hk : K v s.σ) : ACall C f args s K X := by
  refine ⟨h.1, fun E cargs hst hg ha => ?_⟩
  obtain ⟨L, hlv, hL⟩ := fresh_level hst.fin s.lv
  obtain ⟨q1, q2⟩ := seal_store (σk := []) (σd := s.σ) hst (by simp) (fun _ h => h) (by simp [Store.keys]) (by simp [Store.keys])
  refine (h.2 (E.sealed s.σ) cargs L q1 (hg.mono seal_le) (frzL_rep hst.blk hz ha) hL).mono ?_
  rintro e w' ⟨E1, o, σ', hw, ⟨rfl, rfl⟩, ho, hs', hg', hb⟩
  cases ho with | ret hv =>
  let E2 : Amb := { E1 with I := fun b o => E.I b o ∨ (E1.I b o ∧ E.w.heap.size ≤ b) }
  have hlt : ∀ b, b < E.w.heap.size → E1.w.heap[b]? = E.w.heap[b]? := fun b hb => hg'.kept b hb fun ⟨id, hi, _⟩ => by simp [Store.keys] at hi
  have hle : E.Le E2 := ⟨fun b o h => .inl h, fun b o hi => World.cell?_of_block (hlt b (hst.imm b o hi)), fun id => hg'.le.loc id⟩
  have hsame : ∀ id, E.ι id ≠ .unborn → E1.ι id = E.ι id := fun id hu => hg'.loc id (by simp [Store.keys]) hu
  refine ⟨E2, hw, fun id hi hu => hb id (by omega) hu, .inl ⟨_, _, _, rfl, hv.flat hf, hk, ?_, ?_⟩⟩
  · refine ⟨fun id b hm => (hst.blk id b hm).keep hle (hsame id (hst.blk id b hm).born) (fun c hc => hlt c ((hst.blk id b hm).size hc)) (fun c hc o hi => ?_), hst.nodup, fun i j hi hj hne b hbi hbj => ?_, fun b o hi => ?_, hs'.fin⟩
    · rcases hi with hi | ⟨_, hi⟩
      · exact hi
      · have := (hst.blk id b hm).size hc; omega
    · obtain ⟨ki, _, hki⟩ := hst.mem hi
      obtain ⟨kj, _, hkj⟩ := hst.mem hj
      have e1 : E2.ι i = E.ι i := hsame i hki.born
      have e2 : E2.ι j = E.ι j := hsame j hkj.born
      rw [e1] at hbi; rw [e2] at hbj
      exact hst.apart i j hi hj hne b hbi hbj
    · rcases hi with hi | ⟨hi, _⟩
      · exact Nat.lt_of_lt_of_le (hst.imm b o hi) hg'.size
      · exact hs'.imm b o hi
  · refine ⟨hle, fun b hb _ => hlt b hb, fun b o hi => hi.elim .inl fun h => .inr (.inl h.2), fun id _ hu => hsame id hu, fun id hi => .inl hi, fun b ⟨id, hi, hb⟩ => .inr ⟨id, hi, ?_⟩, hg'.os, hg'.tape, hg'.output, hg'.size⟩
    obtain ⟨k, _, hk⟩ := hst.mem hi
    have e1 : E2.ι id = E.ι id := hsame id hk.born
    rw [e1] at hb; exact hb

/-- Slices of one's own that are only appended to from now on. -/
def sealB : Blk → Blk
  | .vec t s es ver _ => .vec t s es ver false
  | b => b

def Store.sealed (σ : Store) (ids : List Id) : Store := σ.map fun x => if ids.contains x.1 then (x.1, sealB x.2) else x

theorem Store.seal_keys (σ : Store) (ids : List Id) : (σ.sealed ids).keys = σ.keys := by
  unfold Store.sealed Store.keys
  rw [List.map_map]
  congr 1
  funext x
  simp only [Function.comp]
  split <;> rfl

/-- The ambient once some slices' elements are fixed. -/
def Amb.fix (E : Amb) (σ : Store) : Amb :=
  { E with I := fun b o => E.I b o ∨ ∃ id t s es ver wr, (id, Blk.vec t s es ver wr) ∈ σ ∧ (E.ι id).block = some b ∧ o < es.length * s }

theorem fix_le {σ : Store} : E.Le (E.fix σ) := ⟨fun _ _ h => .inl h, fun _ _ _ => rfl, fun _ => Loc.Le.refl _⟩

mutual
/-- v' is what v is, its slices' elements fixed. -/
inductive Fix (σ : Store) : V → V → Prop
  | refl (v : V) : Fix σ v v
  | vec {id : Id} {ver : Nat} {t : TypeId} {s : Nat} {es es' : List V} {wr : Bool} (h : σ.get id = some (.vec t s es ver wr)) (k : FixL σ es es') : Fix σ (.vec id ver) (.slice es')
  | agg {cs cs' : List V} (h : FixL σ cs cs') : Fix σ (.agg cs) (.agg cs')
inductive FixL (σ : Store) : List V → List V → Prop
  | nil : FixL σ [] []
  | cons {v v' : V} {vs vs' : List V} (h : Fix σ v v') (k : FixL σ vs vs') : FixL σ (v :: vs) (v' :: vs')
end

theorem FixOk.refl {σ : Store} (v : V) : FrzOk E (E.fix σ) v v := ⟨fun _ h => h.mono fix_le, fun _ h => h.mono fix_le, rfl, fun h => h, fun h => h⟩

theorem fix_ok {σ : Store} (hs : ∀ id b, (id, b) ∈ σ → BlkRel E id b) {v v' : V} (h : Fix σ v v') : FrzOk E (E.fix σ) v v' := by
  induction h using Fix.rec (motive_2 := fun vs vs' _ => FrzLOk E (E.fix σ) vs vs') with
  | refl v => exact FixOk.refl v
  | @vec id ver t s es es' wr h k ih =>
    refine .of_rep (fun cv hr => ?_) rfl rfl rfl
    have hm := Store.get_mem h
    obtain ⟨hv, xs, eι, rfl, hown, hxs, hes, h0, hI⟩ := vec_inv hr (hs _ _ hm)
    have hel := ih.elems s hes
    have hfl := ih.flat _ hxs
    rcases hown.2 with ⟨a, rfl, e3⟩ | ⟨g, cap, cur, hc0, rfl, hg, hcap, _, hsz, htk⟩
    · have : es' = [] := List.eq_nil_of_length_eq_zero (by rw [ih.len]; exact e3)
      subst this
      exact .slice0 _ _
    · rw [← ih.len]
      refine .slice (cvs := xs) hfl (fun j u hj => ⟨?_, .inr ⟨id, t, s, es, ver, wr, hm, by rw [eι]; simp [Loc.block, hblk]; omega, ?_⟩⟩) hel (by rw [ih.len]; exact hcap)
      · show E.w.cell? _ = _
        unfold World.cell?
        simp only [hg, Option.isSome_none, Bool.false_eq_true, if_false, Nat.zero_add]
        rw [← htk, List.getElem?_take] at hj
        split at hj
        · simpa using hj
        · cases hj
      · have := (List.getElem?_eq_some_iff.1 hj).1
        rw [hown.1] at this; omega
  | agg h ih => exact ⟨fun cv hr => by cases hr with | agg hr hsc => exact .agg (ih.rep _ hr) (ih.scal hsc), ih.rep, ih.len, fun ho => ih.scal ho, fun h => by simp [V.scalar] at h⟩
  | nil => exact ⟨fun _ h => h.mono fix_le, fun _ h => h.mono fix_le, rfl, fun _ h => h, fun h => h⟩
  | cons h k i1 i2 =>
    refine ⟨fun cvs hr => ?_, fun cvs hr => ?_, by simp [i2.len], fun s hs e he => ?_, fun hs e he => ?_⟩
    · cases hr with | cons a b => exact .cons (i1.rep _ a) (i2.rep _ b)
    · simp only [List.flatMap_cons] at hr ⊢
      obtain ⟨a, b, rfl, ha, hb⟩ := hr.split
      exact (i1.cells _ ha).append (i2.flat _ hb)
    · rcases List.mem_cons.1 he with rfl | he
      · have := hs _ List.mem_cons_self
        exact ⟨i1.len.trans this.1, i1.ok this.2⟩
      · exact i2.elems s (fun e he => hs e (List.mem_cons_of_mem _ he)) e he
    · rcases List.mem_cons.1 he with rfl | he
      · exact i1.scal (hs _ List.mem_cons_self)
      · exact i2.scal (fun e he => hs e (List.mem_cons_of_mem _ he)) e he


theorem fix_store {σ : Store} (hs : StoreRel E σ) (ids : List Id) : StoreRel (E.fix (σ.only ids)) (σ.sealed ids) ∧ Grow E σ (E.fix (σ.only ids)) (σ.sealed ids) := by
  have hmem : ∀ x, x ∈ σ.only ids → x ∈ σ ∧ ids.contains x.1 = true := fun x hx => by
    unfold Store.only at hx; exact List.mem_filter.1 hx
  have hown : ∀ b o, (E.fix (σ.only ids)).I b o → E.I b o ∨ ∃ id t s es ver wr, (id, Blk.vec t s es ver wr) ∈ σ ∧ ids.contains id = true ∧ (E.ι id).block = some b ∧ o < es.length * s := fun b o hi => by
    rcases hi with hi | ⟨id, t, s, es, ver, wr, hm, hb, ho⟩
    · exact .inl hi
    · exact .inr ⟨id, t, s, es, ver, wr, (hmem _ hm).1, (hmem _ hm).2, hb, ho⟩
  have uniq : ∀ {i j : Id} {k k' : Blk} {b : Nat}, (i, k) ∈ σ → (j, k') ∈ σ → (E.ι i).block = some b → (E.ι j).block = some b → i = j ∧ k = k' := fun {i j k k' b} hi hj hbi hbj => by
    have e : i = j := Classical.byContradiction fun hne => hs.apart i j (List.mem_map.2 ⟨_, hi, rfl⟩) (List.mem_map.2 ⟨_, hj, rfl⟩) hne b hbi hbj
    subst e
    refine ⟨rfl, ?_⟩
    have hn := hs.nodup
    clear hown hmem
    revert hn
    induction σ with
    | nil => cases hi
    | cons x r ih =>
      intro hn
      have hnd := List.nodup_cons.1 hn
      rcases List.mem_cons.1 hi with e | hi' <;> rcases List.mem_cons.1 hj with e' | hj'
      · rw [← e] at e'; cases e'; rfl
      · subst e; exact absurd (List.mem_map.2 ⟨_, hj', rfl⟩) hnd.1
      · subst e'; exact absurd (List.mem_map.2 ⟨_, hi', rfl⟩) hnd.1
      · exact ih ⟨fun id b hm => hs.blk id b (List.mem_cons_of_mem _ hm), hnd.2, fun i j hi hj => hs.apart i j (List.mem_cons_of_mem _ hi) (List.mem_cons_of_mem _ hj), hs.imm, hs.fin⟩ hi' hj' hnd.2
  refine ⟨⟨fun id b hm => ?_, by rw [Store.seal_keys]; exact hs.nodup, by rw [Store.seal_keys]; exact hs.apart, fun b o hi => ?_, hs.fin⟩, ?_⟩
  · obtain ⟨⟨id', k⟩, hk, e⟩ := List.mem_map.1 hm
    simp only at e
    have hblk := hs.blk id' k hk
    split at e
    · rename_i hc
      cases e
      cases k with
      | cells t cs =>
        refine hblk.keep fix_le rfl (fun _ _ => rfl) fun c hcb o hi => ?_
        rcases hown c o hi with hi | ⟨j, t', s', es', ver', wr', hj, _, hjb, _⟩
        · exact hi
        · have := (uniq hk hj hcb hjb).2; cases this
      | vec t s es ver wr =>
        obtain ⟨hv, xs, eι, ho, hr, hes, h0, hI⟩ := hblk
        refine ⟨hv, xs, eι, ho, hr.mono fix_le, hes, h0, fun b hb o hi => ⟨rfl, ?_⟩⟩
        rcases hown b o hi with hi | ⟨j, t', s', es', ver', wr', hj, _, hjb, hlt⟩
        · exact (hI b hb o hi).2
        · have := (uniq hk hj (by rw [eι]; exact hb) hjb).2
          cases this; exact hlt
    · rename_i hc
      cases e
      refine hblk.keep fix_le rfl (fun _ _ => rfl) fun c hcb o hi => ?_
      rcases hown c o hi with hi | ⟨j, t', s', es', ver', wr', hj, hjc, hjb, _⟩
      · exact hi
      · have := (uniq hk hj hcb hjb).1
        subst this
        exact absurd hjc hc
  · rcases hown b o hi with hi | ⟨j, t', s', es', ver', wr', hj, _, hjb, _⟩
    · exact hs.imm b o hi
    · exact (hs.blk _ _ hj).size hjb
  · refine ⟨fix_le, fun _ _ _ => rfl, fun b o hi => ?_, fun _ _ _ => rfl, fun id hi => .inl (by rw [Store.seal_keys] at hi; exact hi), fun b ⟨id, hi, hb⟩ => .inr ⟨id, by rw [Store.seal_keys] at hi; exact hi, hb⟩, rfl, rfl, rfl, Nat.le_refl _⟩
    rcases hown b o hi with hi | ⟨j, t', s', es', ver', wr', hj, _, hjb, _⟩
    · exact .inl hi
    · exact .inr (.inr ⟨j, List.mem_map.2 ⟨_, hj, rfl⟩, hjb⟩)

theorem fixL_rep {σ : Store} (hs : ∀ id b, (id, b) ∈ σ → BlkRel E id b) {vs vs' : List V} (h : FixL σ vs vs') {cvs : List Value} (hr : RepL E vs cvs) : RepL (E.fix σ) vs' cvs := by
  induction vs generalizing vs' cvs with
  | nil => cases h; cases hr; exact .nil
  | cons v vs ih =>
    cases h with | cons a b =>
    cases hr with | cons c d => exact .cons ((fix_ok hs a).rep _ c) (ih b d)

/-- A call that is handed slices of one's own for good. -/
theorem acall_seal {f : FuncId} {args args' : List V} {s : ASt} {K X : V → Store → Prop} {v : V} (ids : List Id) (h : APure C f args' v) (hz : FixL (s.σ.only ids) args args') (hk : K v (s.σ.sealed ids)) : ACall C f args s K X := by
  refine ⟨h.1, fun E cargs hst hg ha => ?_⟩
  obtain ⟨q1, q2⟩ := fix_store hst ids
  have ha' := fixL_rep (fun id b hm => hst.blk id b (by unfold Store.only at hm; exact (List.mem_filter.1 hm).1)) hz ha
  have hc := (acall_pure (s := { s with σ := s.σ.sealed ids }) (K := K) (X := X) h hk).2 (E.fix (s.σ.only ids)) cargs q1 (hg.mono fix_le) ha'
  refine hc.mono ?_
  rintro e w' ⟨E1, hw, hb, hres⟩
  refine ⟨E1, hw, fun id hi hu => hb id hi hu, ?_⟩
  rcases hres with ⟨v, cv, σ', h1, h2, h3, h4, h5⟩ | ⟨v, cv, σ', h1, h2, h3, h4, h5⟩
  · exact .inl ⟨v, cv, σ', h1, h2, h3, h4, q2.trans h5⟩
  · exact .inr ⟨v, cv, σ', h1, h2, h3, h4, q2.trans h5⟩
end
end Go.Awp

/- AWP, text 18: statements that draw their order: the order of the text serves all orders. -/
namespace Go.Awp
open Go

/-- A moment inside a statement, up to the way it is written. -/
structure MS where
  τ : Nat → Option V
  M : Id × Blk → Prop

/-- What an operation does: its value; what it reads, takes away, puts in its place. -/
structure D where
  want : Bool
  v : V
  ro : Store
  wi : Store
  wo : Store
  j : Id
  nw : Bool

def MS.app (s : MS) (dst : Option Tmp) (d : D) : MS :=
  ⟨fun t => if dst = some t then some d.v else s.τ t, fun x => x ∈ d.wo ∨ (s.M x ∧ x.1 ∉ Store.keys d.wi)⟩

def lkF (C : Ctx) (τ : Nat → Option V) : Operand → Option V
  | .tmp t => τ t
  | .const v => ofV v
  | .global g => (C.G.lookup g).map .rptr
  | .func f => some (.func (.func f) [] [])

def guardF (ops : Array Oper) (τ : Nat → Option V) (o : Oper) : Option Bool :=
  match o.guard with
  | none => some true
  | some (j, want) => match (ops[j]?).bind (·.dst) with
    | some t => match τ t with
      | some (.bool b) => some (b == want)
      | some (.tup []) => some false
      | _ => none
    | none => none

/-- A small triple of an operation that is carried out. -/
def LT (C : Ctx) (o : Oper) (lk : Operand → Option V) (σi : Store) (j : Id) (lv : Nat) (v : V) (σo : Store) (nw : Bool) : Prop :=
  ∀ E a K Q, StoreRel E σi → GlobRel C E → (nw = true → E.ι j = .unborn) → (∀ x ∈ o.op.operands, ∀ u, lk x = some u → Rep E u (a.eval x)) →
    (∀ E' cv, Rep E' v cv → StoreRel E' σo → Grow E σi E' σo → (∀ id : Id, id.1 ≤ lv → (nw = true → id ≠ j) → E.ι id = .unborn → E'.ι id = .unborn) → K (a.put o.dst cv) E'.w) → o.wp C.P a E.w K Q

/-- The operation can come up, and does what d says. -/
structure En (C : Ctx) (ops : Array Oper) (N lv : Nat) (o : Oper) (d : D) (s : MS) : Prop where
  dst : dstOk N o.dst = true
  guard : guardF ops s.τ o = some d.want
  lt : d.want = true → LT C o (lkF C s.τ) (d.ro ++ d.wi) d.j lv d.v (d.ro ++ d.wo) d.nw
  no : d.want = false → d.v = .tup [] ∧ d.ro = [] ∧ d.wi = [] ∧ d.wo = [] ∧ d.nw = false
  mem : ∀ x, x ∈ d.ro ++ d.wi → s.M x
  nodup : (Store.keys (d.ro ++ d.wi)).Nodup

structure Indep (ops : Array Oper) (o o' : Oper) (d d' : D) : Prop where
  apart : o.apart ops o' = true
  op : (∀ cs b, o.op ≠ .select cs b) ∧ (∀ cs b, o'.op ≠ .select cs b)
  w1 : ∀ id, (id ∈ Store.keys d.wi ∨ id ∈ Store.keys d.wo) → id ∉ Store.keys d'.ro ∧ id ∉ Store.keys d'.wi ∧ id ∉ Store.keys d'.wo
  w2 : ∀ id, (id ∈ Store.keys d'.wi ∨ id ∈ Store.keys d'.wo) → id ∉ Store.keys d.ro

section
variable {C : Ctx} {ops : Array Oper} {N lv : Nat}

theorem LT.congr {o : Oper} {lk lk' : Operand → Option V} {σi σo : Store} {j : Id} {v : V} {nw : Bool} (h : LT C o lk σi j lv v σo nw) (he : ∀ x ∈ o.op.operands, lk' x = lk x) : LT C o lk' σi j lv v σo nw :=
  fun E a K Q h1 h2 h3 h4 h5 => h E a K Q h1 h2 h3 (fun x hx u hu => h4 x hx u (by rw [he x hx]; exact hu)) h5

theorem lkF_app {o o' : Oper} {s : MS} {d : D} (h : ∀ t, o.dst = some t → t ∉ o'.looksAt ops) : ∀ x ∈ o'.op.operands, lkF C (s.app o.dst d).τ x = lkF C s.τ x := by
  intro x hx
  cases x with
  | tmp t =>
    simp only [lkF, MS.app]
    rw [if_neg]
    intro e
    exact h t e (List.mem_append_left _ (List.mem_filterMap.2 ⟨.tmp t, by simpa using hx, rfl⟩))
  | _ => rfl

theorem guardF_app {o o' : Oper} {s : MS} {d : D} (h : ∀ t, o.dst = some t → t ∉ o'.looksAt ops) : guardF ops (s.app o.dst d).τ o' = guardF ops s.τ o' := by
  unfold guardF
  cases hg : o'.guard with
  | none => rfl
  | some gw =>
    obtain ⟨g, want⟩ := gw
    simp only
    cases ht : (ops[g]?).bind (·.dst) with
    | none => rfl
    | some t =>
      have : (s.app o.dst d).τ t = s.τ t := by
        simp only [MS.app]
        rw [if_neg]
        intro e
        exact h t e (List.mem_append_right _ (by simp [hg, ht]))
      simp only [this]

/-- Two neighbours that have nothing to do with one another. -/
theorem En.swap {o o' : Oper} {d d' : D} {s : MS} (h : En C ops N lv o d s) (h' : En C ops N lv o' d' (s.app o.dst d)) (hi : Indep ops o o' d d') :
    En C ops N lv o' d' s ∧ En C ops N lv o d (s.app o'.dst d') ∧ (s.app o.dst d).app o'.dst d' = (s.app o'.dst d').app o.dst d := by
  obtain ⟨a1, a2, a3⟩ := Oper.apart_spec hi.apart
  have km : ∀ {σ : Store} {x : Id × Blk}, x ∈ σ → x.1 ∈ Store.keys σ := fun hx => List.mem_map.2 ⟨_, hx, rfl⟩
  have kapp : ∀ {σ σ' : Store} {id : Id}, id ∈ Store.keys (σ ++ σ') ↔ id ∈ Store.keys σ ∨ id ∈ Store.keys σ' := fun {σ σ' id} => by
    unfold Store.keys; rw [List.map_append, List.mem_append]
  refine ⟨⟨h'.dst, by rw [← guardF_app (s := s) (d := d) a1]; exact h'.guard, fun hw => (h'.lt hw).congr fun x hx => (lkF_app a1 x hx).symm, h'.no, fun x hx => ?_, h'.nodup⟩,
    ⟨h.dst, by rw [guardF_app (s := s) (d := d') a3]; exact h.guard, fun hw => (h.lt hw).congr fun x hx => lkF_app a3 x hx, h.no, fun x hx => ?_, h.nodup⟩, ?_⟩
  · have hm := h'.mem x hx
    simp only [MS.app] at hm
    rcases hm with hm | hm
    · have := hi.w1 x.1 (.inr (km hm))
      rcases List.mem_append.1 hx with hx | hx
      · exact absurd (km hx) this.1
      · exact absurd (km hx) this.2.1
    · exact hm.1
  · refine .inr ⟨h.mem x hx, fun hk => ?_⟩
    rcases List.mem_append.1 hx with hx | hx
    · exact hi.w2 x.1 (.inl hk) (km hx)
    · exact (hi.w1 x.1 (.inl (km hx))).2.1 hk
  · simp only [MS.app, MS.mk.injEq]
    constructor
    · funext t
      by_cases e1 : o.dst = some t
      · have : o'.dst ≠ some t := fun e => a2 t e1 e
        simp [e1, this]
      · simp [e1]
    · funext x
      apply propext
      constructor
      · rintro (hx | ⟨hx | ⟨hx, h1⟩, h2⟩)
        · exact .inr ⟨.inl hx, fun hk => (hi.w1 x.1 (.inl hk)).2.2 (km hx)⟩
        · exact .inl hx
        · exact .inr ⟨.inr ⟨hx, h2⟩, h1⟩
      · rintro (hx | ⟨hx | ⟨hx, h1⟩, h2⟩)
        · exact .inr ⟨.inl hx, fun hk => (hi.w1 x.1 (.inr (km hx))).2.1 hk⟩
        · exact .inl hx
        · exact .inr ⟨.inr ⟨hx, h2⟩, h1⟩

/-- All of some operations, one behind the other. -/
def EnL (C : Ctx) (ops : Array Oper) (N lv : Nat) (D : Nat → D) : List Nat → MS → Prop
  | [], _ => True
  | i :: l, s => ∃ o, ops[i]? = some o ∧ En C ops N lv o (D i) s ∧ EnL C ops N lv D l (s.app o.dst (D i))

def appL (ops : Array Oper) (D : Nat → D) : List Nat → MS → MS
  | [], s => s
  | i :: l, s => appL ops D l (s.app ((ops[i]?).bind (·.dst)) (D i))

theorem EnL.pull {D : Nat → D} {i : Nat} {o : Oper} (ho : ops[i]? = some o) : ∀ (l1 l2 : List Nat) (s : MS), (∀ k ∈ l1, ∀ ok, ops[k]? = some ok → Indep ops ok o (D k) (D i)) → EnL C ops N lv D (l1 ++ i :: l2) s →
    En C ops N lv o (D i) s ∧ EnL C ops N lv D (l1 ++ l2) (s.app o.dst (D i)) ∧ appL ops D (l1 ++ i :: l2) s = appL ops D (l1 ++ l2) (s.app o.dst (D i))
  | [], l2, s, _, h => by
    obtain ⟨o', ho', h1, h2⟩ := h
    rw [ho] at ho'; cases ho'
    exact ⟨h1, h2, by simp [appL, ho]⟩
  | k :: l1, l2, s, hind, h => by
    obtain ⟨ok, hok, h1, h2⟩ := h
    obtain ⟨g1, g2, g3⟩ := EnL.pull ho l1 l2 (s.app ok.dst (D k)) (fun k' hk' => hind k' (by simp [hk'])) h2
    obtain ⟨s1, s2, s3⟩ := h1.swap g1 (hind k (by simp) ok hok)
    refine ⟨s1, ⟨ok, hok, s2, by rw [← s3]; exact g2⟩, ?_⟩
    simp only [List.cons_append, appL, hok, Option.bind_some]
    rw [g3, s3]

/-- A state that may be written so. -/
structure RelM (C : Ctx) (N lv : Nat) (s : MS) (E : Amb) (a : Act) : Prop where
  tmp : ∀ t v, s.τ t = some v → Rep E v (a.tmps.getD t undef)
  size : a.tmps.size = N
  store : ∃ σ, StoreRel E σ ∧ ∀ x, x ∈ σ ↔ s.M x
  glob : GlobRel C E

theorem lkF_rep {s : MS} {E : Amb} {a : Act} (h : RelM C N lv s E a) {x : Operand} {v : V} (hv : lkF C s.τ x = some v) : Rep E v (a.eval x) := by
  cases x with
  | tmp t => exact h.tmp t v hv
  | const c => exact (ofV_rep hv).1
  | global g =>
    obtain ⟨u, hu, rfl⟩ := Option.map_eq_some_iff.1 hv
    exact h.glob g u hu
  | func f => cases hv; exact .func .nil .nil

theorem guardF_wanted {s : MS} {E : Amb} {a : Act} (hr : RelM C N lv s E a) {o : Oper} {b : Bool} (h : guardF ops s.τ o = some b) : Region.wanted o (yielded ops a.tmps) = b := by
  unfold guardF at h
  unfold Region.wanted
  split at h
  · rename_i e; cases h; rw [e]
  · rename_i j want e
    rw [e]
    split at h
    · rename_i t ht
      split at h
      · rename_i bb hl
        cases h
        have hrep := hr.tmp t _ hl
        have : a.tmps.getD t undef = .bool bb := by revert hrep; generalize a.tmps.getD t undef = y; intro hy; cases hy; rfl
        have hy : yielded ops a.tmps j = some bb := by
          unfold yielded; rw [ht]
          rw [Array.getD_eq_getD_getElem?] at this
          simp only [Option.bind_some]
          cases h3 : a.tmps[t]? with
          | none => rw [h3] at this; simp [undef] at this
          | some y => rw [h3] at this; simp at this; rw [this]
        show (yielded ops a.tmps j == some want) = _
        rw [hy]; rfl
      · rename_i hl
        cases h
        have hrep := hr.tmp t _ hl
        have : a.tmps.getD t undef = .tuple #[] := by
          revert hrep; generalize a.tmps.getD t undef = y; intro hy
          cases hy with | tup h => cases h; rfl
        have hy : yielded ops a.tmps j = none := by
          unfold yielded; rw [ht]
          rw [Array.getD_eq_getD_getElem?] at this
          simp only [Option.bind_some]
          cases h3 : a.tmps[t]? with
          | none => rfl
          | some y => rw [h3] at this; simp at this; rw [this]
        show (yielded ops a.tmps j == some want) = _
        rw [hy]; rfl
      · cases h
    · cases h

theorem keys_inj {σ : Store} (hn : σ.keys.Nodup) {x y : Id × Blk} (hx : x ∈ σ) (hy : y ∈ σ) (e : x.1 = y.1) : x = y := by
  induction σ with
  | nil => cases hx
  | cons z r ih =>
    have hnd := List.nodup_cons.1 hn
    rcases List.mem_cons.1 hx with e1 | hx' <;> rcases List.mem_cons.1 hy with e2 | hy'
    · rw [e1, e2]
    · subst e1; exact absurd (List.mem_map.2 ⟨_, hy', e.symm⟩) hnd.1
    · subst e2; exact absurd (List.mem_map.2 ⟨_, hx', e⟩) hnd.1
    · exact ih hnd.2 hx' hy'

theorem Grow.congr {E E' : Amb} {σ σ1 σ' σ1' : Store} (h : Grow E σ E' σ') (h1 : ∀ id, id ∈ σ1.keys ↔ id ∈ σ.keys) (h2 : ∀ id, id ∈ σ1'.keys ↔ id ∈ σ'.keys) : Grow E σ1 E' σ1' := by
  have o1 : ∀ b, Owned E σ1 b ↔ Owned E σ b := fun b => ⟨fun ⟨id, hi, hb⟩ => ⟨id, (h1 id).1 hi, hb⟩, fun ⟨id, hi, hb⟩ => ⟨id, (h1 id).2 hi, hb⟩⟩
  have o2 : ∀ b, Owned E' σ1' b → Owned E' σ' b := fun b ⟨id, hi, hb⟩ => ⟨id, (h2 id).1 hi, hb⟩
  exact ⟨h.le, fun b hb ho => h.kept b hb fun q => ho ((o1 b).2 q), fun b o hi => (h.inew b o hi).imp (fun h => h) fun q => q.imp (fun h => h) (o1 b).2, fun id hn => h.loc id fun q => hn ((h1 id).2 q),
    fun id hi => (h.keys id ((h2 id).1 hi)).imp (h1 id).2 fun h => h, fun b ho => (h.own b (o2 b ho)).imp (fun h => h) (o1 b).2, h.os, h.tape, h.output, h.size⟩

theorem keys_of_mem {σ σ1 : Store} (h : ∀ x, x ∈ σ1 ↔ x ∈ σ) (id : Id) : id ∈ σ1.keys ↔ id ∈ σ.keys := by
  unfold Store.keys
  constructor
  · intro hi; obtain ⟨x, hx, e⟩ := List.mem_map.1 hi; exact List.mem_map.2 ⟨x, (h x).1 hx, e⟩
  · intro hi; obtain ⟨x, hx, e⟩ := List.mem_map.1 hi; exact List.mem_map.2 ⟨x, (h x).2 hx, e⟩

/-- Only those ids are new that the operations name. -/
def Fresh (lv : Nat) (D : Nat → D) (l : List Nat) (E : Amb) : Prop := ∀ i ∈ l, E.ι (D i).j = .unborn

theorem RelM.step {o : Oper} {d : D} {s : MS} {E : Amb} {a : Act} {K : Act → World → Prop} {Q : Exit → Act → World → Prop} {i : Nat} (ho : ops[i]? = some o) (hr : RelM C N lv s E a) (he : En C ops N lv o d s) (hj : d.want = true → d.nw = true → E.ι d.j = .unborn)
    (hk : ∀ E' a', RelM C N lv (s.app o.dst d) E' a' → (∀ σ σ', (∀ x, x ∈ σ ↔ s.M x) → (∀ x, x ∈ σ' ↔ (s.app o.dst d).M x) → Grow E σ E' σ') → a'.defers = a.defers →
      (∀ id : Id, id.1 ≤ lv → (d.nw = true → id ≠ d.j) → E.ι id = .unborn → E'.ι id = .unborn) → K a' E'.w) : wpOp C.P ops Q i K a E.w := by
  unfold wpOp
  simp only [ho]
  obtain ⟨σ, hst, hmem⟩ := hr.store
  have put : ∀ {E' : Amb} {cv : Value}, E.Le E' → Rep E' d.v cv → (∃ σ, StoreRel E' σ ∧ ∀ x, x ∈ σ ↔ (s.app o.dst d).M x) → RelM C N lv (s.app o.dst d) E' (a.put o.dst cv) := fun {E' cv} hle hv hstore => by
    refine ⟨fun t v hv' => ?_, ?_, hstore, hr.glob.mono hle⟩
    · simp only [MS.app] at hv'
      split at hv'
      · rename_i e
        cases hv'
        have ht : t < N := by have := he.dst; rw [e] at this; simpa [dstOk] using this
        rw [e]
        simp only [Act.put]
        rw [Array.getD_eq_getD_getElem?, Array.getElem?_setIfInBounds_self_of_lt (by rw [hr.size]; exact ht)]
        exact hv
      · rename_i e
        have : (a.put o.dst cv).tmps.getD t undef = a.tmps.getD t undef := by
          cases hd : o.dst with
          | none => rfl
          | some u =>
            have hne : u ≠ t := fun e' => e (by rw [hd, e'])
            simp only [Act.put]
            rw [Array.getD_eq_getD_getElem?, Array.getElem?_setIfInBounds_ne hne, ← Array.getD_eq_getD_getElem?]
        rw [this]
        exact (hr.tmp t v hv').mono hle
    · cases o.dst <;> simp [Act.put, hr.size]
  rw [guardF_wanted hr he.guard]
  cases hw : d.want with
  | false =>
    rw [if_neg (by simp)]
    obtain ⟨n1, n2, n3, n4, n5⟩ := he.no hw
    have hM : (s.app o.dst d).M = s.M := by funext x; simp [MS.app, n3, n4, Store.keys]
    refine hk E _ (put (Amb.Le.refl E) (by rw [n1]; exact .tup .nil) ⟨σ, hst, by rw [hM]; exact hmem⟩) (fun σ1 σ2 h1 h2 => (Grow.refl E σ).congr (keys_of_mem fun x => (h1 x).trans (hmem x).symm) (keys_of_mem fun x => (h2 x).trans (by rw [hM]; exact (hmem x).symm))) (by cases o.dst <;> rfl) fun _ _ _ h => h
  | true =>
    rw [if_pos rfl]
    left
    have hsub : ∀ x, x ∈ d.ro ++ d.wi → x ∈ σ := fun x hx => (hmem x).2 (he.mem x hx)
    refine he.lt hw E a K Q (hst.part hsub he.nodup) hr.glob (hj hw) (fun x _ u hu => lkF_rep hr hu) ?_
    intro E' cv hv hs' hg hb
    have key : ∀ σ1 : Store, (∀ x, x ∈ σ1 ↔ s.M x) → ∀ x, x ∈ (d.ro ++ d.wo) ++ σ1.less (d.ro ++ d.wi) ↔ (s.app o.dst d).M x := fun σ1 h1 x => by
      have kapp : ∀ {σ σ' : Store} {id : Id}, id ∈ Store.keys (σ ++ σ') ↔ id ∈ Store.keys σ ∨ id ∈ Store.keys σ' := fun {σ σ' id} => by
        unfold Store.keys; rw [List.map_append, List.mem_append]
      rw [List.mem_append, List.mem_append, Store.mem_less, kapp, h1]
      simp only [MS.app]
      constructor
      · rintro ((hx | hx) | ⟨hx, h2⟩)
        · refine .inr ⟨he.mem x (List.mem_append_left _ hx), fun hk => ?_⟩
          have hnd := he.nodup
          unfold Store.keys at hnd
          rw [List.map_append, List.nodup_append] at hnd
          exact hnd.2.2 x.1 (List.mem_map.2 ⟨_, hx, rfl⟩) x.1 hk rfl
        · exact .inl hx
        · exact .inr ⟨hx, fun hk => h2 (.inr hk)⟩
      · rintro (hx | ⟨hx, h2⟩)
        · exact .inl (.inr hx)
        · by_cases hr' : x.1 ∈ Store.keys d.ro
          · obtain ⟨y, hy, e⟩ := List.mem_map.1 hr'
            have hyσ := hsub y (List.mem_append_left _ hy)
            have hxσ := (hmem x).2 hx
            have : y = x := keys_inj hst.nodup hyσ hxσ e
            exact .inl (.inl (this ▸ hy))
          · exact .inr ⟨hx, fun h => h.elim hr' h2⟩
    obtain ⟨f1, f2⟩ := frame hst hsub (fun x hx => (Store.mem_less.1 hx).1) (fun id hi => by
      obtain ⟨x, hx, rfl⟩ := List.mem_map.1 hi
      exact (Store.mem_less.1 hx).2) (Store.less_nodup hst.nodup) hs' hg
    have hm' := key σ hmem
    exact hk E' _ (put f2.le hv ⟨_, f1, hm'⟩) (fun σ1 σ2 h1 h2 => f2.congr (keys_of_mem fun x => (h1 x).trans (hmem x).symm) (keys_of_mem fun x => (h2 x).trans (hm' x).symm)) (by cases o.dst <;> rfl) hb

/-! ### All orders -/
/-- Which operations each one waits for, directly or not. -/
def predAcc : List Oper → List (List Nat) → List (List Nat)
  | [], acc => acc
  | o :: r, acc => predAcc r (acc ++ [o.after.toList.foldr (fun e l => if Region.binds .any e = true then e.on :: (acc.getD e.on [] ++ l) else l) []])

def isSelect : Op → Bool
  | .select .. => true
  | _ => false

/-- What is asked of the statement itself. -/
def regOk (ops : List Oper) : Bool :=
  let P := predAcc ops []
  (ops.zipIdx.all fun (o, i) =>
    !isSelect o.op &&
    (o.after.all fun e => !Region.binds .any e || decide (e.on < i)) &&
    ((P.getD i []).all fun a => o.after.any fun e => Region.binds .any e && (a == e.on || (P.getD e.on []).contains a)) &&
    (ops.zipIdx.all fun (o', i') => decide (i ≤ i') || (P.getD i []).contains i' || o'.apart ops.toArray o))

structure RegOk (ops : Array Oper) (P : Nat → List Nat) : Prop where
  sel : ∀ (i : Nat) o, ops[i]? = some o → ∀ cs b, o.op ≠ .select cs b
  lex : ∀ (i : Nat) o, ops[i]? = some o → ∀ e ∈ o.after, Region.binds .any e = true → e.on < i
  closed : ∀ (i : Nat) o, ops[i]? = some o → ∀ a ∈ P i, ∃ e ∈ o.after, Region.binds .any e = true ∧ (a = e.on ∨ a ∈ P e.on)
  apart : ∀ (i i' : Nat) o o', ops[i]? = some o → ops[i']? = some o' → i' < i → i' ∉ P i → o'.apart ops o = true

theorem regOk_spec {l : List Oper} (h : regOk l = true) : RegOk l.toArray (fun i => (predAcc l []).getD i []) := by
  unfold regOk at h
  simp only [List.all_eq_true, Bool.and_eq_true] at h
  have get : ∀ {i : Nat} {o : Oper}, l.toArray[i]? = some o → (o, i) ∈ l.zipIdx := fun {i o} hi => by
    rw [List.getElem?_toArray] at hi
    exact List.mem_zipIdx_iff_getElem?.2 hi
  refine ⟨fun i o hi cs b e => ?_, fun i o hi e he hb => ?_, fun i o hi a ha => ?_, fun i i' o o' hi hi' hlt hn => ?_⟩
  · have := (h _ (get hi)).1.1.1
    rw [e] at this; simp [isSelect] at this
  · have := (h _ (get hi)).1.1.2
    have := (Array.all_eq_true_iff_forall_mem.1 this) e he
    simpa [hb] using this
  · have := (h _ (get hi)).1.2 a ha
    obtain ⟨e, he, hx⟩ := Array.any_eq_true'.1 this
    simp only [Bool.and_eq_true, Bool.or_eq_true, beq_iff_eq, List.contains_iff_mem] at hx
    exact ⟨e, he, hx⟩
  · have := (h _ (get hi)).2 _ (get hi')
    simp only [Bool.or_eq_true, decide_eq_true_eq, List.contains_iff_mem] at this
    rcases this with (h1 | h1) | h1
    · omega
    · exact absurd h1 hn
    · exact h1

/-- What is asked of the data. -/
structure DataOk (P : Nat → List Nat) (lv : Nat) (D : Nat → D) (n : Nat) : Prop where
  w1 : ∀ i i', i' < i → i < n → i' ∉ P i → ∀ id, (id ∈ Store.keys (D i').wi ∨ id ∈ Store.keys (D i').wo) → id ∉ Store.keys (D i).ro ∧ id ∉ Store.keys (D i).wi ∧ id ∉ Store.keys (D i).wo
  w2 : ∀ i i', i' < i → i < n → i' ∉ P i → ∀ id, (id ∈ Store.keys (D i).wi ∨ id ∈ Store.keys (D i).wo) → id ∉ Store.keys (D i').ro
  j : ∀ i i', i < n → i' < n → i ≠ i' → (D i).nw = true → (D i').nw = true → (D i).j ≠ (D i').j
  lv : ∀ i, i < n → (D i).j.1 = lv

theorem any_sound {P : Nat → List Nat} {D : Nat → D} (hR : RegOk ops P) (hD : DataOk P lv D ops.size) {Q : Exit → Act → World → Prop} : ∀ (l : List Nat) (listed : Array Bool) (s : MS) (E : Amb) (a : Act),
    (∀ i, i ∈ l ↔ (i < ops.size ∧ listed.getD i true = false)) → listed.size = ops.size → l.Pairwise (· < ·) → (∀ i, i < ops.size → listed.getD i true = true → ∀ b ∈ P i, b < ops.size → listed.getD b true = true) →
    RelM C N lv s E a → EnL C ops N lv D l s → (∀ i ∈ l, (D i).want = true → (D i).nw = true → E.ι (D i).j = .unborn) →
    (∀ E' a', RelM C N lv (appL ops D l s) E' a' → (∀ σ σ', (∀ x, x ∈ σ ↔ s.M x) → (∀ x, x ∈ σ' ↔ (appL ops D l s).M x) → Grow E σ E' σ') → a'.defers = a.defers →
      (∀ id : Id, id.1 ≤ lv → (∀ i ∈ l, (D i).nw = true → id ≠ (D i).j) → E.ι id = .unborn → E'.ι id = .unborn) → Q .normal a' E'.w) →
    wpAny C.P .any ops Q l.length listed a E.w
  | [], listed, s, E, a, hl, hsz, hs, hc, hr, he, hf, hQ => by
    refine ⟨?_, hQ E a hr (fun σ σ' h1 h2 => (Grow.refl E σ).congr (fun _ => Iff.rfl) (keys_of_mem fun x => (h2 x).trans (h1 x).symm)) rfl fun _ _ _ h => h⟩
    rw [List.eq_nil_iff_forall_not_mem]
    intro j hj
    obtain ⟨h0, o, ho, _⟩ := mem_ready.1 hj
    have := (hl j).2 ⟨(Array.getElem?_eq_some_iff.1 ho).1, h0⟩
    cases this
  | i0 :: l0, listed, s, E, a, hl, hsz, hs, hc, hr, he, hf, hQ => by
    have hlt : ∀ i ∈ i0 :: l0, i < ops.size := fun i hi => ((hl i).1 hi).1
    have hle : ∀ i ∈ i0 :: l0, i0 ≤ i := fun i hi => by
      rcases List.mem_cons.1 hi with rfl | hi
      · exact Nat.le_refl _
      · exact Nat.le_of_lt ((List.pairwise_cons.1 hs).1 i hi)
    refine ⟨fun h0 => ?_, fun i hi => ?_⟩
    · exfalso
      have hmem : i0 ∈ Region.ready .any ops listed := by
        have h1 := (hl i0).1 List.mem_cons_self
        obtain ⟨o, ho⟩ : ∃ o, ops[i0]? = some o := ⟨_, Array.getElem?_eq_getElem h1.1⟩
        refine mem_ready.2 ⟨h1.2, o, ho, fun e he' hb => ?_⟩
        have hlex := hR.lex i0 o ho e he' hb
        have hes : e.on < listed.size := by rw [hsz]; omega
        cases hv : listed.getD e.on false with
        | true => rfl
        | false =>
          have : listed.getD e.on true = false := by simp [hes] at hv ⊢; exact hv
          have := hle _ ((hl e.on).2 ⟨by omega, this⟩)
          omega
      rw [h0] at hmem; cases hmem
    · obtain ⟨hun, o, ho, hall⟩ := mem_ready.1 hi
      have hin : i < ops.size := (Array.getElem?_eq_some_iff.1 ho).1
      have hil : i ∈ i0 :: l0 := (hl i).2 ⟨hin, hun⟩
      obtain ⟨l1, l2, hsplit⟩ := List.append_of_mem hil
      have hlisted : ∀ b ∈ P i, b < ops.size → listed.getD b true = true := fun b hb hbn => by
        obtain ⟨e, he', hbind, hx⟩ := hR.closed i o ho b hb
        have hlex := hR.lex i o ho e he' hbind
        have h1 := hall e he' hbind
        have h1' : listed.getD e.on true = true := by
          have hes : e.on < listed.size := by rw [hsz]; omega
          simp [hes] at h1 ⊢; exact h1
        rcases hx with rfl | hx
        · exact h1'
        · exact hc e.on (by omega) h1' b hx hbn
      have hsorted : (l1 ++ i :: l2).Pairwise (· < ·) := hsplit ▸ hs
      have hind : ∀ k ∈ l1, ∀ ok, ops[k]? = some ok → Indep ops ok o (D k) (D i) := fun k hk ok hok => by
        have hki : k < i := (List.pairwise_append.1 hsorted).2.2 k hk i List.mem_cons_self
        have hkl : k ∈ i0 :: l0 := by rw [hsplit]; exact List.mem_append_left _ hk
        have hkun := (hl k).1 hkl
        have hnp : k ∉ P i := fun hp => by
          have := hlisted k hp hkun.1
          rw [hkun.2] at this; cases this
        exact ⟨hR.apart i k o ok ho hok hki hnp, ⟨hR.sel k ok hok, hR.sel i o ho⟩, hD.w1 i k hki hin hnp, hD.w2 i k hki hin hnp⟩
      rw [hsplit] at he hQ
      obtain ⟨g1, g2, g3⟩ := EnL.pull ho l1 l2 s hind he
      have hlen : l0.length = (l1 ++ l2).length := by
        have := congrArg List.length hsplit
        simp at this ⊢; omega
      refine hr.step ho g1 (fun hw hnw => hf i hil hw hnw) fun E' a' hr' hg' hd' hb' => ?_
      rw [hlen]
      refine any_sound hR hD (l1 ++ l2) (listed.setIfInBounds i true) (s.app o.dst (D i)) E' a' (fun k => ?_) (by simpa using hsz) ?_ (fun k hk hlk b hb hbn => ?_) hr' g2 (fun k hk hw hnw => ?_) ?_
      · have hmem : k ∈ l1 ++ l2 ↔ (k ∈ i0 :: l0 ∧ k ≠ i) := by
          rw [hsplit]
          constructor
          · intro hk
            refine ⟨?_, fun e => ?_⟩
            · rcases List.mem_append.1 hk with hk | hk
              · exact List.mem_append_left _ hk
              · exact List.mem_append_right _ (List.mem_cons_of_mem _ hk)
            · subst e
              have hp := List.pairwise_append.1 hsorted
              rcases List.mem_append.1 hk with hk | hk
              · have := hp.2.2 k hk k List.mem_cons_self; omega
              · have := (List.pairwise_cons.1 hp.2.1).1 k hk; omega
          · rintro ⟨hk, hne⟩
            rcases List.mem_append.1 hk with hk | hk
            · exact List.mem_append_left _ hk
            · rcases List.mem_cons.1 hk with e | hk
              · exact absurd e hne
              · exact List.mem_append_right _ hk
        rw [hmem, hl]
        constructor
        · rintro ⟨⟨h1, h2⟩, h3⟩
          exact ⟨h1, by rw [getD_set_ne true (Ne.symm h3)]; exact h2⟩
        · rintro ⟨h1, h2⟩
          have hne : k ≠ i := fun e => by
            subst e
            have : k < listed.size := by rw [hsz]; exact h1
            simp [this] at h2
          exact ⟨⟨h1, by rw [getD_set_ne true (Ne.symm hne)] at h2; exact h2⟩, hne⟩
      · have hp := List.pairwise_append.1 hsorted
        exact List.pairwise_append.2 ⟨hp.1, (List.pairwise_cons.1 hp.2.1).2, fun x hx y hy => hp.2.2 x hx y (List.mem_cons_of_mem _ hy)⟩
      · have up : ∀ b, b < ops.size → listed.getD b true = true → (listed.setIfInBounds i true).getD b true = true := fun b hbn h => by
          by_cases e : i = b
          · subst e
            have : i < listed.size := by rw [hsz]; exact hbn
            simp [this]
          · rw [getD_set_ne true e]; exact h
        by_cases e : k = i
        · subst e; exact up b hbn (hlisted b hb hbn)
        · rw [getD_set_ne true (Ne.symm e)] at hlk
          exact up b hbn (hc k hk hlk b hb hbn)
      · have hkl : k ∈ i0 :: l0 := by
          rw [hsplit]
          rcases List.mem_append.1 hk with hk | hk
          · exact List.mem_append_left _ hk
          · exact List.mem_append_right _ (List.mem_cons_of_mem _ hk)
        have hne : k ≠ i := fun e => by
          subst e
          have hp := List.pairwise_append.1 hsorted
          rcases List.mem_append.1 hk with hk | hk
          · have := hp.2.2 k hk k List.mem_cons_self; omega
          · have := (List.pairwise_cons.1 hp.2.1).1 k hk; omega
        refine hb' _ (Nat.le_of_eq (hD.lv k (hlt k hkl))) (fun hni => ?_) (hf k hkl hw hnw)
        exact hD.j k i (hlt k hkl) hin hne hnw hni
      · intro E2 a2 hr2 hg2 hd2 hb2
        obtain ⟨σ1, hst1, hmem1⟩ := hr'.store
        refine hQ E2 a2 (by rw [g3]; exact hr2) (fun σ σ' h1 h2 => (hg' σ σ1 h1 hmem1).trans (hg2 σ1 σ' hmem1 (by rw [← g3]; exact h2))) (hd2.trans hd') fun id hi1 hne hu => ?_
        refine hb2 id hi1 (fun k hk hnw => hne k ?_ hnw) (hb' id hi1 (fun hnw => hne i (by simp) hnw) hu)
        rcases List.mem_append.1 hk with hk | hk
        · exact List.mem_append_left _ hk
        · exact List.mem_append_right _ (List.mem_cons_of_mem _ hk)
termination_by l => l.length
decreasing_by
  rename_i hsplit _ _ _ _ _ _ _ _ _ _ _ _ _
  have := congrArg List.length hsplit
  simp at this ⊢; omega
end
end Go.Awp

/- AWP, text 19: the walk through statements that draw their order. -/
namespace Go.Awp
open Go

def headId : V → List Id
  | .ptr id _ => [id]
  | .eptr id _ _ _ _ => [id]
  | .vec id _ => [id]
  | .vsub id _ _ _ _ => [id]
  | _ => []

def touch (lk : Operand → Option V) : List Operand → List Id
  | [] => []
  | x :: l => (match lk x with | some v => headId v | none => []) ++ touch lk l

theorem touch_mem {lk : Operand → Option V} {l : List Operand} {x : Operand} {v : V} (hx : x ∈ l) (hv : lk x = some v) {id : Id} (hid : id ∈ headId v) : id ∈ touch lk l := by
  induction l with
  | nil => cases hx
  | cons y l ih =>
    simp only [touch, List.mem_append]
    rcases List.mem_cons.1 hx with rfl | hx
    · exact .inl (by rw [hv]; exact hid)
    · exact .inr (ih hx)

/-- Only the ids that its operands name matter. -/
theorem opA_local {P : Program} {lk : Operand → Option V} {get get' : Id → Option Blk} {j : Id} {op : Op} (h : ∀ id ∈ touch lk op.operands.toList, get' id = get id) : opA P lk get' j op = opA P lk get j op := by
  have hs : storeOp P lk get' j op = storeOp P lk get j op := by
    cases op <;> try rfl
    case load t x =>
      have hx : x ∈ (Op.load t x).operands.toList := by simp [Op.operands]
      simp only [storeOp]
      cases hl : lk x with
      | none => rfl
      | some v =>
        cases v <;> try rfl
        case ptr id off => simp only [Option.bind_some]; rw [h id (touch_mem hx hl (by simp [headId]))]
        case eptr id _ _ _ _ => simp only [Option.bind_some]; rw [h id (touch_mem hx hl (by simp [headId]))]
    case store t x y =>
      have hx : x ∈ (Op.store t x y).operands.toList := by simp [Op.operands]
      simp only [storeOp]
      cases hl : lk x with
      | none => rfl
      | some p =>
        cases hl' : lk y with
        | none => rfl
        | some v =>
          cases p <;> try rfl
          case ptr id off => simp only [Option.bind_some]; rw [h id (touch_mem hx hl (by simp [headId]))]
          case eptr id _ _ _ _ => simp only [Option.bind_some]; rw [h id (touch_mem hx hl (by simp [headId]))]
  have hv : vecOp P lk get' j op = vecOp P lk get j op := by
    cases op <;> try rfl
    case indexAddr t x i =>
      have hx : x ∈ (Op.indexAddr t x i).operands.toList := by simp [Op.operands]
      simp only [vecOp]
      cases hl : lk x with
      | none => rfl
      | some v =>
        cases hl' : lk i with
        | none => rfl
        | some k =>
          cases v <;> try rfl
          case vec id ver =>
            have e := h id (touch_mem hx hl (by simp [headId]))
            cases k <;> first | rfl | (simp only [Option.bind_some]; rw [e])
    case call c =>
      have hargs : ∀ x ∈ c.args.toList, x ∈ (Op.call c).operands.toList := fun x hx => by simp [Op.operands, Call.operands]; exact .inr (by simpa using hx)
      simp only [vecOp]
      split
      · rename_i s x t tx hcal ha hat
        have hs1 := hargs s (by rw [ha]; simp)
        have hx1 := hargs x (by rw [ha]; simp)
        cases hl : lk s with
        | none => rfl
        | some vs =>
          cases hl' : lk x with
          | none => rfl
          | some vx =>
            simp only [Option.bind_some]
            have e1 : ∀ n, srcV P get' n tx vx = srcV P get n tx vx := fun n => by
              cases vx <;> try rfl
              case vec id ver => simp only [srcV]; rw [h id (touch_mem hx1 hl' (by simp [headId]))]
              case vsub id ver _ _ _ => simp only [srcV]; rw [h id (touch_mem hx1 hl' (by simp [headId]))]
            unfold appV
            simp only [e1]
            cases vs <;> try rfl
            case vec id ver => simp only; rw [h id (touch_mem hs1 hl (by simp [headId]))]
      · rename_i x t hcal ha hat
        have hx1 := hargs x (by rw [ha]; simp)
        cases hl : lk x with
        | none => rfl
        | some vx =>
          simp only [Option.bind_some]
          cases vx <;> try rfl
          case vec id ver => simp only; rw [h id (touch_mem hx1 hl (by simp [headId]))]
      · rfl
  have hw : ∀ {v : V}, (∀ id ∈ headId v, get' id = get id) → winV get' v = winV get v := fun {v} hh => by
    cases v <;> try rfl
    case vec id ver => simp only [winV]; rw [hh id (by simp [headId])]
    case vsub id ver _ _ _ => simp only [winV]; rw [hh id (by simp [headId])]
  have hid : ∀ {v : V} {r : Id × Nat × Nat}, winV get v = some r → r.1 ∈ headId v := fun {v r} hr => by
    unfold winV at hr
    split at hr
    · obtain ⟨k, _, hr⟩ := Option.bind_eq_some_iff.1 hr
      split at hr
      · split at hr
        · cases hr; simp [headId]
        · cases hr
      · cases hr
    · obtain ⟨k, _, hr⟩ := Option.bind_eq_some_iff.1 hr
      split at hr
      · split at hr
        · cases hr; simp [headId]
        · cases hr
      · cases hr
    · cases hr
  have hsrc : ∀ {v : V} (n : Nat) (tx : TypeId), (∀ id ∈ headId v, get' id = get id) → srcV P get' n tx v = srcV P get n tx v := fun {v} n tx hh => by
    cases v <;> try rfl
    case vec id ver => simp only [srcV]; rw [hh id (by simp [headId])]
    case vsub id ver _ _ _ => simp only [srcV]; rw [hh id (by simp [headId])]
  have hsub : subOp P lk get' op = subOp P lk get op := by
    cases op <;> try rfl
    case slice t x lo hi mx =>
      have hx : x ∈ (Op.slice t x lo hi mx).operands.toList := by simp [Op.operands]
      simp only [subOp]
      cases hl : lk x with
      | none => rfl
      | some v =>
        have hh : ∀ id ∈ headId v, get' id = get id := fun id hi => h id (touch_mem hx hl hi)
        simp only [Option.bind_some, hw hh]
        cases hr : winV get v with
        | none => rfl
        | some r =>
          obtain ⟨id, b, len⟩ := r
          simp only [Option.bind_some]
          rw [hh id (hid hr)]
    case indexAddr t x i =>
      have hx : x ∈ (Op.indexAddr t x i).operands.toList := by simp [Op.operands]
      simp only [subOp]
      cases hl : lk x with
      | none => rfl
      | some v =>
        have hh : ∀ id ∈ headId v, get' id = get id := fun id hi => h id (touch_mem hx hl hi)
        cases lk i with
        | none => rfl
        | some k =>
          simp only [Option.bind_some]
          split
          · rw [hw hh]
          · rfl
    case call c =>
      have hargs : ∀ x ∈ c.args.toList, x ∈ (Op.call c).operands.toList := fun x hx => by simp [Op.operands, Call.operands]; exact .inr (by simpa using hx)
      simp only [subOp]
      split
      · rename_i x t hcal ha hat
        have hx := hargs x (by rw [ha]; simp)
        cases hl : lk x with
        | none => rfl
        | some v =>
          have hh : ∀ id ∈ headId v, get' id = get id := fun id hi => h id (touch_mem hx hl hi)
          simp only [Option.bind_some]
          split
          · rw [hw hh]
          · rfl
      · rename_i x t hcal ha hat
        have hx := hargs x (by rw [ha]; simp)
        cases hl : lk x with
        | none => rfl
        | some v =>
          have hh : ∀ id ∈ headId v, get' id = get id := fun id hi => h id (touch_mem hx hl hi)
          simp only [Option.bind_some, hw hh]
          cases hr : winV get v with
          | none => rfl
          | some r =>
            obtain ⟨id, b, len⟩ := r
            simp only [Option.bind_some]
            rw [hh id (hid hr)]
      · rename_i s x t tx hcal ha hat
        have hs' := hargs s (by rw [ha]; simp)
        have hx' := hargs x (by rw [ha]; simp)
        cases hl : lk s with
        | none => rfl
        | some v =>
          have hh : ∀ id ∈ headId v, get' id = get id := fun id hi => h id (touch_mem hs' hl hi)
          simp only [Option.bind_some]
          split
          · cases hl2 : lk x with
            | none => rfl
            | some vx =>
              have hh2 : ∀ id ∈ headId vx, get' id = get id := fun id hi => h id (touch_mem hx' hl2 hi)
              simp only [Option.bind_some, hw hh, hsrc _ _ hh2]
              rw [hh _ (by simp [headId])]
          · rfl
      · rename_i s x t tx hcal ha hat
        have hs' := hargs s (by rw [ha]; simp)
        have hx' := hargs x (by rw [ha]; simp)
        cases hl : lk s with
        | none => rfl
        | some v =>
          have hh : ∀ id ∈ headId v, get' id = get id := fun id hi => h id (touch_mem hs' hl hi)
          simp only [Option.bind_some]
          cases hl2 : lk x with
          | none => rfl
          | some vx =>
            have hh2 : ∀ id ∈ headId vx, get' id = get id := fun id hi => h id (touch_mem hx' hl2 hi)
            simp only [Option.bind_some, hw hh, hsrc _ _ hh2]
            cases hr : winV get v with
            | none => rfl
            | some r =>
              obtain ⟨id, b, len⟩ := r
              simp only [Option.bind_some]
              rw [hh id (hid hr)]
      · rfl
  unfold opA
  rw [hs, hv, hsub]

theorem storeOp_j {P : Program} {lk : Operand → Option V} {get : Id → Option Blk} {j j' : Id} {op : Op} {r : V × Upd} (h : storeOp P lk get j op = some r) (hu : r.2.isNew = false) : storeOp P lk get j' op = some r := by
  unfold storeOp at h
  split at h
  · exact h
  · exact h
  · obtain ⟨z, _, e⟩ := Option.map_eq_some_iff.1 h; subst e; simp [Upd.isNew] at hu
  · obtain ⟨w, _, e⟩ := Option.bind_eq_some_iff.1 h
    split at e
    · cases e; simp [Upd.isNew] at hu
    · cases e
  · cases h

theorem storeOp_jn {P : Program} {lk : Operand → Option V} {get : Id → Option Blk} {j j' : Id} {op : Op} (h : storeOp P lk get j op = none) : storeOp P lk get j' op = none := by
  unfold storeOp at h ⊢
  split
  · exact h
  · exact h
  · simp only at h
    rename_i t
    cases hz : zeroC P t with
    | none => rfl
    | some z => simp [hz] at h
  · simp only at h
    rename_i t x
    cases hl : lk x with
    | none => rfl
    | some w =>
      simp only [hl, Option.bind_some] at h ⊢
      split
      · rename_i hw; rw [if_pos hw] at h; cases h
      · rfl
  · rfl

theorem appV_j {P : Program} {get : Id → Option Blk} {j j' : Id} {t tx : TypeId} {a b : V} {v : V} {u : Upd} (h2 : appV P get j t tx a b = some (v, u)) (hu : u.isNew = false) : appV P get j' t tx a b = some (v, u) := by
  unfold appV at h2 ⊢
  obtain ⟨el, a1, h3⟩ := Option.bind_eq_some_iff.1 h2
  obtain ⟨nn, a2, h4⟩ := Option.bind_eq_some_iff.1 h3
  obtain ⟨bb, a3, h5⟩ := Option.bind_eq_some_iff.1 h4
  obtain ⟨zz, a4, h6⟩ := Option.bind_eq_some_iff.1 h5
  obtain ⟨xs, a5, h7⟩ := Option.bind_eq_some_iff.1 h6
  simp only [a1, a2, a3, a4, a5, Option.bind_some]
  split at h7
  · rename_i hc
    rw [if_pos hc]
    split at h7
    · exact h7
    · split at h7
      · cases h7; simp [Upd.isNew] at hu
      · cases h7
    · cases h7
  · cases h7

theorem vecOp_j {P : Program} {lk : Operand → Option V} {get : Id → Option Blk} {j j' : Id} {op : Op} {v : V} {u : Upd} (h : vecOp P lk get j op = some (v, u)) (hu : u.isNew = false) : vecOp P lk get j' op = some (v, u) := by
  unfold vecOp at h ⊢
  split at h
  · split at h
    · obtain ⟨vs, f1, h1⟩ := Option.bind_eq_some_iff.1 h
      obtain ⟨vx, f2, h2⟩ := Option.bind_eq_some_iff.1 h1
      rw [f1, f2]
      exact appV_j h2 hu
    · exact h
    · cases h
  · exact h
  · obtain ⟨a, _, h1⟩ := Option.bind_eq_some_iff.1 h
    obtain ⟨b, _, h2⟩ := Option.bind_eq_some_iff.1 h1
    split at h2
    · obtain ⟨_, _, h3⟩ := Option.bind_eq_some_iff.1 h2
      obtain ⟨_, _, h4⟩ := Option.bind_eq_some_iff.1 h3
      obtain ⟨_, _, h5⟩ := Option.bind_eq_some_iff.1 h4
      obtain ⟨_, _, h6⟩ := Option.bind_eq_some_iff.1 h5
      split at h6
      · cases h6; simp [Upd.isNew] at hu
      · cases h6
    · cases h2
  · exact h
  · exact h
  · cases h

theorem subOp_old {P : Program} {lk : Operand → Option V} {get : Id → Option Blk} {op : Op} {v : V} {u : Upd} (h : subOp P lk get op = some (v, u)) : u.isNew = false := by
  unfold subOp at h
  split at h
  · obtain ⟨_, _, h⟩ := Option.bind_eq_some_iff.1 h
    obtain ⟨_, _, h⟩ := Option.bind_eq_some_iff.1 h
    obtain ⟨_, _, h⟩ := Option.bind_eq_some_iff.1 h
    obtain ⟨_, _, h⟩ := Option.bind_eq_some_iff.1 h
    obtain ⟨_, _, h⟩ := Option.bind_eq_some_iff.1 h
    split at h
    · obtain ⟨_, _, h⟩ := Option.bind_eq_some_iff.1 h
      obtain ⟨_, _, h⟩ := Option.bind_eq_some_iff.1 h
      split at h
      · split at h
        · split at h <;> cases h; rfl
        · obtain ⟨_, _, h⟩ := Option.bind_eq_some_iff.1 h
          split at h <;> cases h; rfl
      · cases h
    · cases h
  · obtain ⟨_, _, h⟩ := Option.bind_eq_some_iff.1 h
    obtain ⟨_, _, h⟩ := Option.bind_eq_some_iff.1 h
    split at h
    · obtain ⟨_, _, h⟩ := Option.bind_eq_some_iff.1 h
      obtain ⟨_, _, h⟩ := Option.bind_eq_some_iff.1 h
      obtain ⟨_, _, h⟩ := Option.bind_eq_some_iff.1 h
      split at h <;> cases h; rfl
    · cases h
  · split at h
    · obtain ⟨_, _, h⟩ := Option.bind_eq_some_iff.1 h
      split at h
      · split at h
        · obtain ⟨_, _, e⟩ := Option.map_eq_some_iff.1 h; cases e; rfl
        · cases h
      · cases h
    · obtain ⟨_, _, h⟩ := Option.bind_eq_some_iff.1 h
      obtain ⟨_, _, h⟩ := Option.bind_eq_some_iff.1 h
      obtain ⟨_, _, h⟩ := Option.bind_eq_some_iff.1 h
      obtain ⟨_, _, h⟩ := Option.bind_eq_some_iff.1 h
      obtain ⟨_, _, h⟩ := Option.bind_eq_some_iff.1 h
      obtain ⟨_, _, h⟩ := Option.bind_eq_some_iff.1 h
      split at h
      · split at h
        · cases h; split <;> rfl
        · cases h
      · cases h
    · obtain ⟨_, _, h⟩ := Option.bind_eq_some_iff.1 h
      split at h
      · obtain ⟨_, _, h⟩ := Option.bind_eq_some_iff.1 h
        obtain ⟨_, _, h⟩ := Option.bind_eq_some_iff.1 h
        obtain ⟨_, _, h⟩ := Option.bind_eq_some_iff.1 h
        obtain ⟨_, _, h⟩ := Option.bind_eq_some_iff.1 h
        obtain ⟨_, _, h⟩ := Option.bind_eq_some_iff.1 h
        obtain ⟨_, _, h⟩ := Option.bind_eq_some_iff.1 h
        split at h
        · split at h
          · cases h; split <;> rfl
          · cases h
        · cases h
      · cases h
    · split at h
      · obtain ⟨_, _, h⟩ := Option.bind_eq_some_iff.1 h
        obtain ⟨_, _, h⟩ := Option.bind_eq_some_iff.1 h
        obtain ⟨_, _, h⟩ := Option.bind_eq_some_iff.1 h
        obtain ⟨_, _, h⟩ := Option.bind_eq_some_iff.1 h
        obtain ⟨_, _, h⟩ := Option.bind_eq_some_iff.1 h
        obtain ⟨_, _, h⟩ := Option.bind_eq_some_iff.1 h
        obtain ⟨_, _, h⟩ := Option.bind_eq_some_iff.1 h
        split at h
        · split at h
          · cases h; split <;> rfl
          · cases h
        · cases h
      · cases h
    · cases h
  · cases h

/-- Where nothing is made, the new id does not matter. -/
theorem opA_j {P : Program} {lk : Operand → Option V} {get : Id → Option Blk} {j j' : Id} {op : Op} {v : V} {u : Upd} (h : opA P lk get j op = some (v, u)) (hu : u.isNew = false) : opA P lk get j' op = some (v, u) := by
  unfold opA at h ⊢
  split at h
  · exact h
  · split at h
    · rename_i r hr
      cases h
      rw [storeOp_j hr hu]
    · rename_i hr
      rw [storeOp_jn hr]
      split at h
      · exact h
      · exact vecOp_j h hu
end Go.Awp

/- AWP, text 20: the rule of statements that draw their order. -/
namespace Go.Awp
open Go

/-- It looks at no memory. -/
def idleOp : Op → Bool
  | .load .. | .store .. | .alloc .. | .box .. | .indexAddr .. | .makeSlice .. | .slice .. | .call .. => false
  | _ => true
/-- It may write. -/
def writerOp : Op → Bool
  | .store .. | .alloc .. | .box .. | .makeSlice .. => true
  | .call c => match c.callee with
    | .builtin .append | .builtin .clear | .builtin .copy => true
    | _ => false
  | _ => false

/-- What an operation writes. -/
def Upd.wr (j : Id) : Upd → List Id
  | .none => []
  | .new _ => [j]
  | .put id _ => [id]

def toMS (s : ASt) : MS := ⟨fun t => s.τ.lookup t, fun x => x ∈ s.σ⟩

/-- Written so that new ids are new. -/
structure Neat (s : ASt) : Prop where
  nodup : s.σ.keys.Nodup
  new : ∀ k, s.nx ≤ k → (s.lv, k) ∉ s.σ.keys

section
variable {C : Ctx} {ops : Array Oper}

theorem toMS_put (s : ASt) (o : Oper) (d : D) (s' : ASt) (hτ : s'.τ = s.τ) (hM : ∀ x, x ∈ s'.σ ↔ (x ∈ d.wo ∨ (x ∈ s.σ ∧ x.1 ∉ Store.keys d.wi))) : toMS (s'.putD o.dst d.v) = (toMS s).app o.dst d := by
  unfold toMS MS.app
  simp only [MS.mk.injEq]
  constructor
  · funext t
    cases hd : o.dst with
    | none => simp [ASt.putD, hτ]
    | some u =>
      simp only [ASt.putD, List.lookup_cons, Option.some.injEq, hτ]
      by_cases e : t = u
      · subst e; simp
      · have e' : ¬ u = t := fun h => e h.symm
        have : (t == u) = false := by simp [e]
        simp [this, e']
  · funext x
    apply propext
    have : (s'.putD o.dst d.v).σ = s'.σ := (putD_lv _ _ _).2.1
    rw [this]
    exact hM x

theorem Store.get_eq {σ : Store} (hn : σ.keys.Nodup) {id : Id} {b : Blk} (h : (id, b) ∈ σ) : σ.get id = some b := by
  induction σ with
  | nil => cases h
  | cons x r ih =>
    obtain ⟨i, k⟩ := x
    have hnd := List.nodup_cons.1 hn
    simp only [Store.get]
    rcases List.mem_cons.1 h with e | h
    · cases e; rw [if_pos rfl]
    · rw [if_neg fun e => hnd.1 (List.mem_map.2 ⟨_, h, e.symm⟩)]
      exact ih hnd.2 h

theorem Store.get_none {σ : Store} {id : Id} (h : id ∉ σ.keys) : σ.get id = none := by
  induction σ with
  | nil => rfl
  | cons x r ih =>
    obtain ⟨i, k⟩ := x
    simp only [Store.get]
    rw [if_neg fun e => h (List.mem_cons.2 (.inl e.symm))]
    exact ih fun hm => h (List.mem_cons.2 (.inr hm))

theorem Store.mem_put_iff {σ : Store} (hn : σ.keys.Nodup) {id : Id} {k b : Blk} (hm : (id, k) ∈ σ) (x : Id × Blk) : x ∈ σ.put id b ↔ (x = (id, b) ∨ (x ∈ σ ∧ x.1 ≠ id)) := by
  constructor
  · intro hx
    rcases Store.mem_put hx with e | ⟨h1, h2⟩
    · exact .inl e
    · exact .inr ⟨h1, h2 hn⟩
  · intro hx
    induction σ with
    | nil => cases hm
    | cons y r ih =>
      obtain ⟨i, q⟩ := y
      have hnd := List.nodup_cons.1 hn
      simp only [Store.put]
      split
      · rename_i e
        subst e
        rcases hx with e | ⟨h1, h2⟩
        · exact List.mem_cons.2 (.inl e)
        · rcases List.mem_cons.1 h1 with e | h1
          · subst e; exact absurd rfl h2
          · exact List.mem_cons_of_mem _ h1
      · rename_i hne
        have hm' : (id, k) ∈ r := by
          rcases List.mem_cons.1 hm with e | h
          · cases e; exact absurd rfl hne
          · exact h
        rcases hx with e | ⟨h1, h2⟩
        · exact List.mem_cons_of_mem _ (ih hnd.2 hm' (.inl e))
        · rcases List.mem_cons.1 h1 with e | h1
          · exact List.mem_cons.2 (.inl e)
          · exact List.mem_cons_of_mem _ (ih hnd.2 hm' (.inr ⟨h1, h2⟩))

theorem only_nodup {σ : Store} (hn : σ.keys.Nodup) (ids : List Id) : (σ.only ids).keys.Nodup := by
  unfold Store.only Store.keys
  exact List.Sublist.nodup (List.Sublist.map _ List.filter_sublist) hn

theorem only_mem {σ : Store} {ids : List Id} {x : Id × Blk} : x ∈ σ.only ids ↔ x ∈ σ ∧ x.1 ∈ ids := by
  unfold Store.only; rw [List.mem_filter]; simp

theorem Store.get_only {σ : Store} (hn : σ.keys.Nodup) {ids : List Id} {id : Id} (h : id ∈ ids) : (σ.only ids).get id = σ.get id := by
  by_cases hk : id ∈ σ.keys
  · obtain ⟨⟨i, b⟩, hb, rfl⟩ := List.mem_map.1 hk
    rw [Store.get_eq hn hb, Store.get_eq (only_nodup hn ids) (only_mem.2 ⟨hb, h⟩)]
  · rw [Store.get_none hk, Store.get_none fun hm => hk (by obtain ⟨x, hx, e⟩ := List.mem_map.1 hm; exact List.mem_map.2 ⟨x, (only_mem.1 hx).1, e⟩)]

/-- A small triple out of a big one. -/
theorem LT.of_ok {o : Oper} {lk : Operand → Option V} {σi σo : Store} {j : Id} {lv : Nat} {v : V} {nw : Bool} (h : ∀ j', (nw = true → j' = j) → ∃ σ1, OpOk C.P o lk σi j' v σ1 nw ∧ (∀ x, x ∈ σ1 ↔ x ∈ σo)) (hn : (Store.keys σo).Nodup) : LT C o lk σi j lv v σo nw := by
  intro E a K Q hs hg hj hρ hk
  obtain ⟨N, hN⟩ := hs.fin
  obtain ⟨σ1, hok, hmem⟩ := h (if nw = true then j else (N, 0)) (fun e => if_pos e)
  have hju : E.ι (if nw = true then j else (N, 0)) = .unborn := by
    split
    · rename_i e; exact hj e
    · exact hN (N, 0) (Nat.le_refl _)
  obtain ⟨E', cv, hrun, hv, hs', hg', hb⟩ := hok E a.eval hs hju hρ
  have := hk E' cv hv (hs'.part (fun x hx => (hmem x).2 hx) hn) (hg'.congr (fun _ => Iff.rfl) (keys_of_mem fun x => (hmem x).symm)) fun id _ hne hu => hb id (fun e => by rw [if_pos e]; exact hne e) hu
  unfold Oper.wp
  rcases hrun with hrun | ⟨hrun, rfl⟩ <;> rw [hrun] <;> exact this

theorem storeOp_put {P : Program} {lk : Operand → Option V} {get : Id → Option Blk} {j id : Id} {op : Op} {v : V} {b : Blk} (h : storeOp P lk get j op = some (v, .put id b)) : (∃ k, get id = some k) ∧ id ∈ touch lk op.operands.toList := by
  unfold storeOp at h
  split at h
  · obtain ⟨p, hp, h⟩ := Option.bind_eq_some_iff.1 h
    split at h
    · obtain ⟨k, hk, h⟩ := Option.bind_eq_some_iff.1 h
      split at h
      · obtain ⟨_, _, e⟩ := Option.map_eq_some_iff.1 h; cases e
      · cases h
    · obtain ⟨k, hk, h⟩ := Option.bind_eq_some_iff.1 h
      split at h
      · split at h
        · obtain ⟨_, _, h⟩ := Option.bind_eq_some_iff.1 h
          obtain ⟨_, _, e⟩ := Option.map_eq_some_iff.1 h; cases e
        · cases h
      · cases h
    · cases h
  · rename_i t x y
    obtain ⟨p, hp, h⟩ := Option.bind_eq_some_iff.1 h
    obtain ⟨w, hw, h⟩ := Option.bind_eq_some_iff.1 h
    have hx : x ∈ (Op.store t x y).operands.toList := by simp [Op.operands]
    split at h
    · obtain ⟨k, hk, h⟩ := Option.bind_eq_some_iff.1 h
      split at h
      · split at h
        · cases h; exact ⟨⟨_, hk⟩, touch_mem hx hp (by simp [headId])⟩
        · cases h
      · cases h
    · obtain ⟨k, hk, h⟩ := Option.bind_eq_some_iff.1 h
      split at h
      · split at h
        · obtain ⟨_, _, h⟩ := Option.bind_eq_some_iff.1 h
          split at h
          · cases h; exact ⟨⟨_, hk⟩, touch_mem hx hp (by simp [headId])⟩
          · cases h
        · cases h
      · cases h
    · cases h
  · obtain ⟨_, _, e⟩ := Option.map_eq_some_iff.1 h; cases e
  · obtain ⟨_, _, h⟩ := Option.bind_eq_some_iff.1 h
    split at h <;> cases h
  · cases h

theorem vecOp_put {P : Program} {lk : Operand → Option V} {get : Id → Option Blk} {j id : Id} {op : Op} {v : V} {b : Blk} (h : vecOp P lk get j op = some (v, .put id b)) : (∃ k, get id = some k) ∧ id ∈ touch lk op.operands.toList := by
  unfold vecOp at h
  split at h
  · rename_i c
    split at h
    · rename_i s x t tx hcal ha hat
      have hs : s ∈ (Op.call c).operands.toList := by
        have : s ∈ c.args.toList := by rw [ha]; simp
        simp [Op.operands, Call.operands]; exact .inr (by simpa using this)
      obtain ⟨vs, f1, h1⟩ := Option.bind_eq_some_iff.1 h
      obtain ⟨vx, f2, h2⟩ := Option.bind_eq_some_iff.1 h1
      unfold appV at h2
      obtain ⟨_, _, h3⟩ := Option.bind_eq_some_iff.1 h2
      obtain ⟨_, _, h4⟩ := Option.bind_eq_some_iff.1 h3
      obtain ⟨_, _, h5⟩ := Option.bind_eq_some_iff.1 h4
      obtain ⟨_, _, h6⟩ := Option.bind_eq_some_iff.1 h5
      obtain ⟨_, _, h7⟩ := Option.bind_eq_some_iff.1 h6
      split at h7
      · split at h7
        · obtain ⟨k, hk, h8⟩ := Option.bind_eq_some_iff.1 h7
          split at h8
          · split at h8
            · cases h8; exact ⟨⟨_, hk⟩, touch_mem hs f1 (by simp [headId])⟩
            · cases h8
          · cases h8
        · split at h7 <;> cases h7
        · cases h7
      · cases h7
    · obtain ⟨_, _, h1⟩ := Option.bind_eq_some_iff.1 h
      split at h1
      · split at h1
        · obtain ⟨_, _, h2⟩ := Option.bind_eq_some_iff.1 h1
          split at h2
          · split at h2 <;> cases h2
          · cases h2
        · cases h1
      · cases h1
    · cases h
  · obtain ⟨_, _, h1⟩ := Option.bind_eq_some_iff.1 h
    obtain ⟨_, _, h2⟩ := Option.bind_eq_some_iff.1 h1
    split at h2
    · obtain ⟨_, _, h3⟩ := Option.bind_eq_some_iff.1 h2
      obtain ⟨_, _, h4⟩ := Option.bind_eq_some_iff.1 h3
      obtain ⟨_, _, h5⟩ := Option.bind_eq_some_iff.1 h4
      split at h5
      · split at h5 <;> cases h5
      · cases h5
    · cases h2
  · obtain ⟨_, _, h1⟩ := Option.bind_eq_some_iff.1 h
    obtain ⟨_, _, h2⟩ := Option.bind_eq_some_iff.1 h1
    split at h2
    · obtain ⟨_, _, h3⟩ := Option.bind_eq_some_iff.1 h2
      obtain ⟨_, _, h4⟩ := Option.bind_eq_some_iff.1 h3
      obtain ⟨_, _, h5⟩ := Option.bind_eq_some_iff.1 h4
      obtain ⟨_, _, h6⟩ := Option.bind_eq_some_iff.1 h5
      split at h6 <;> cases h6
    · cases h2
  · obtain ⟨_, _, h1⟩ := Option.bind_eq_some_iff.1 h
    obtain ⟨_, _, e⟩ := Option.map_eq_some_iff.1 h1; cases e
  · obtain ⟨_, _, h1⟩ := Option.bind_eq_some_iff.1 h
    obtain ⟨_, _, e⟩ := Option.map_eq_some_iff.1 h1; cases e
  · cases h

theorem winV_head {get : Id → Option Blk} {v : V} {id : Id} {b len : Nat} (h : winV get v = some (id, b, len)) : id ∈ headId v := by
  unfold winV at h
  split at h
  · obtain ⟨k, _, h⟩ := Option.bind_eq_some_iff.1 h
    split at h
    · split at h
      · cases h; simp [headId]
      · cases h
    · cases h
  · obtain ⟨k, _, h⟩ := Option.bind_eq_some_iff.1 h
    split at h
    · split at h
      · cases h; simp [headId]
      · cases h
    · cases h
  · cases h

theorem subOp_put {P : Program} {lk : Operand → Option V} {get : Id → Option Blk} {id : Id} {op : Op} {v : V} {u : Upd} (h : subOp P lk get op = some (v, u)) : (∀ b, u = .put id b → (∃ k, get id = some k) ∧ id ∈ touch lk op.operands.toList) ∧ (writerOp op = false → u = .none) := by
  unfold subOp at h
  split at h
  · refine (fun (e : u = .none) => ⟨fun b e' => (by rw [e] at e'; cases e'), fun _ => e⟩) ?_
    obtain ⟨_, _, h⟩ := Option.bind_eq_some_iff.1 h
    obtain ⟨_, _, h⟩ := Option.bind_eq_some_iff.1 h
    obtain ⟨_, _, h⟩ := Option.bind_eq_some_iff.1 h
    obtain ⟨_, _, h⟩ := Option.bind_eq_some_iff.1 h
    obtain ⟨_, _, h⟩ := Option.bind_eq_some_iff.1 h
    split at h
    · obtain ⟨_, _, h⟩ := Option.bind_eq_some_iff.1 h
      obtain ⟨_, _, h⟩ := Option.bind_eq_some_iff.1 h
      split at h
      · split at h
        · split at h <;> cases h; rfl
        · obtain ⟨_, _, h⟩ := Option.bind_eq_some_iff.1 h
          split at h <;> cases h; rfl
      · cases h
    · cases h
  · refine (fun (e : u = .none) => ⟨fun b e' => (by rw [e] at e'; cases e'), fun _ => e⟩) ?_
    obtain ⟨_, _, h⟩ := Option.bind_eq_some_iff.1 h
    obtain ⟨_, _, h⟩ := Option.bind_eq_some_iff.1 h
    split at h
    · obtain ⟨_, _, h⟩ := Option.bind_eq_some_iff.1 h
      obtain ⟨_, _, h⟩ := Option.bind_eq_some_iff.1 h
      obtain ⟨_, _, h⟩ := Option.bind_eq_some_iff.1 h
      split at h <;> cases h; rfl
    · cases h
  · rename_i c
    have hargs : ∀ x ∈ c.args.toList, x ∈ (Op.call c).operands.toList := fun x hx => by simp [Op.operands, Call.operands]; exact .inr (by simpa using hx)
    split at h
    · refine (fun (e : u = .none) => ⟨fun b e' => (by rw [e] at e'; cases e'), fun _ => e⟩) ?_
      obtain ⟨_, _, h⟩ := Option.bind_eq_some_iff.1 h
      split at h
      · split at h
        · obtain ⟨_, _, e⟩ := Option.map_eq_some_iff.1 h; cases e; rfl
        · cases h
      · cases h
    · rename_i x t hcal ha hat
      refine ⟨fun b e' => ?_, fun hw => by rw [writerOp] at hw; rw [hcal] at hw; cases hw⟩
      subst e'
      obtain ⟨_, hl, h⟩ := Option.bind_eq_some_iff.1 h
      obtain ⟨_, hwv, h⟩ := Option.bind_eq_some_iff.1 h
      obtain ⟨_, _, h⟩ := Option.bind_eq_some_iff.1 h
      obtain ⟨_, _, h⟩ := Option.bind_eq_some_iff.1 h
      obtain ⟨_, _, h⟩ := Option.bind_eq_some_iff.1 h
      obtain ⟨_, hg, h⟩ := Option.bind_eq_some_iff.1 h
      split at h
      · split at h
        · split at h <;> cases h
          exact ⟨⟨_, hg⟩, touch_mem (hargs _ (by rw [ha]; simp)) hl (winV_head hwv)⟩
        · cases h
      · cases h
    · rename_i s x t tx hcal ha hat
      refine ⟨fun b e' => ?_, fun hw => by rw [writerOp] at hw; rw [hcal] at hw; cases hw⟩
      subst e'
      obtain ⟨_, hl, h⟩ := Option.bind_eq_some_iff.1 h
      split at h
      · obtain ⟨_, _, h⟩ := Option.bind_eq_some_iff.1 h
        obtain ⟨_, _, h⟩ := Option.bind_eq_some_iff.1 h
        obtain ⟨_, _, h⟩ := Option.bind_eq_some_iff.1 h
        obtain ⟨_, _, h⟩ := Option.bind_eq_some_iff.1 h
        obtain ⟨_, _, h⟩ := Option.bind_eq_some_iff.1 h
        obtain ⟨_, hg, h⟩ := Option.bind_eq_some_iff.1 h
        split at h
        · split at h
          · split at h <;> cases h
            exact ⟨⟨_, hg⟩, touch_mem (hargs _ (by rw [ha]; simp)) hl (by simp [headId])⟩
          · cases h
        · cases h
      · cases h
    · rename_i s x t tx hcal ha hat
      refine ⟨fun b e' => ?_, fun hw => by rw [writerOp] at hw; rw [hcal] at hw; cases hw⟩
      subst e'
      split at h
      · obtain ⟨_, hl, h⟩ := Option.bind_eq_some_iff.1 h
        obtain ⟨_, _, h⟩ := Option.bind_eq_some_iff.1 h
        obtain ⟨_, hwv, h⟩ := Option.bind_eq_some_iff.1 h
        obtain ⟨_, _, h⟩ := Option.bind_eq_some_iff.1 h
        obtain ⟨_, _, h⟩ := Option.bind_eq_some_iff.1 h
        obtain ⟨_, _, h⟩ := Option.bind_eq_some_iff.1 h
        obtain ⟨_, hg, h⟩ := Option.bind_eq_some_iff.1 h
        split at h
        · split at h
          · split at h <;> cases h
            exact ⟨⟨_, hg⟩, touch_mem (hargs _ (by rw [ha]; simp)) hl (winV_head hwv)⟩
          · cases h
        · cases h
      · cases h
    · cases h
  · cases h

theorem opA_put {P : Program} {lk : Operand → Option V} {get : Id → Option Blk} {j id : Id} {op : Op} {v : V} {b : Blk} (h : opA P lk get j op = some (v, .put id b)) : (∃ k, get id = some k) ∧ id ∈ touch lk op.operands.toList := by
  unfold opA at h
  split at h
  · cases h
  · split at h
    · rename_i r hr; cases h; exact storeOp_put hr
    · split at h
      · rename_i r hr; cases h; exact (subOp_put hr).1 _ rfl
      · exact vecOp_put h

/-- The small triple of an operation that is no call. -/
theorem plainD {o : Oper} {s : ASt} {v : V} {u : Upd} (hn : Neat s) (h : opA C.P (lkA C s.τ) s.σ.get (s.lv, s.nx) o.op = some (v, u)) :
    ∃ ro wi wo, LT C o (lkA C s.τ) (ro ++ wi) (s.lv, s.nx) s.lv v (ro ++ wo) u.isNew ∧ (∀ x, x ∈ ro ++ wi → x ∈ s.σ) ∧ (Store.keys (ro ++ wi)).Nodup ∧
      (∀ x, x ∈ u.app s.σ (s.lv, s.nx) ↔ (x ∈ wo ∨ (x ∈ s.σ ∧ x.1 ∉ Store.keys wi))) ∧ (∀ id, id ∈ Store.keys ro → id ∈ touch (lkA C s.τ) o.op.operands.toList) ∧
      (∀ id, (id ∈ Store.keys wi ∨ id ∈ Store.keys wo) → id ∈ u.wr (s.lv, s.nx)) := by
  let ids := touch (lkA C s.τ) o.op.operands.toList
  have kapp : ∀ {σ σ' : Store}, Store.keys (σ ++ σ') = Store.keys σ ++ Store.keys σ' := fun {σ σ'} => List.map_append
  have okeys : ∀ id, id ∈ (Store.only s.σ ids).keys → id ∈ ids := fun id hi => by obtain ⟨x, hx, rfl⟩ := List.mem_map.1 hi; exact (only_mem.1 hx).2
  have loc : ∀ {σi : Store}, (∀ id ∈ ids, σi.get id = s.σ.get id) → ∀ j', (u.isNew = true → j' = (s.lv, s.nx)) → opA C.P (lkA C s.τ) σi.get j' o.op = some (v, u) := fun {σi} hg j' hj' => by
    have e := opA_local (P := C.P) (lk := lkA C s.τ) (get := s.σ.get) (get' := σi.get) (j := (s.lv, s.nx)) (op := o.op) hg
    rw [h] at e
    cases hu : u.isNew with
    | true => rw [hj' hu]; exact e
    | false => exact opA_j e hu
  cases u with
  | none =>
    refine ⟨s.σ.only ids, [], [], ?_, fun x hx => (only_mem.1 (by simpa using hx)).1, by simpa using only_nodup hn.nodup ids, fun x => by simp [Upd.app, Store.keys], okeys, fun id hi => by simp [Store.keys] at hi⟩
    refine LT.of_ok (fun j' hj' => ⟨_, opA_ok (σ := Store.only s.σ ids ++ []) (loc (fun id hid => by rw [List.append_nil]; exact Store.get_only hn.nodup hid) j' hj'), fun x => by simp [Upd.app]⟩) (by simpa using only_nodup hn.nodup ids)
  | new b =>
    have hj : (s.lv, s.nx) ∉ s.σ.keys := hn.new s.nx (Nat.le_refl _)
    have hjo : (s.lv, s.nx) ∉ (s.σ.only ids).keys := fun hm => hj (by obtain ⟨x, hx, e⟩ := List.mem_map.1 hm; exact List.mem_map.2 ⟨x, (only_mem.1 hx).1, e⟩)
    refine ⟨s.σ.only ids, [], [((s.lv, s.nx), b)], ?_, fun x hx => (only_mem.1 (by simpa using hx)).1, by simpa using only_nodup hn.nodup ids, fun x => by simp [Upd.app, Store.keys], okeys, fun id hi => by simpa [Store.keys, Upd.wr] using hi⟩
    refine LT.of_ok (fun j' hj' => ⟨_, opA_ok (σ := Store.only s.σ ids ++ []) (loc (fun id hid => by rw [List.append_nil]; exact Store.get_only hn.nodup hid) j' hj'), fun x => by rw [hj' rfl]; simp [Upd.app, or_comm]⟩) ?_
    rw [kapp]
    exact List.nodup_append.2 ⟨only_nodup hn.nodup ids, by simp [Store.keys], fun a ha b' hb e => by simp [Store.keys] at hb; subst hb; exact hjo (e ▸ ha)⟩
  | put id b =>
    obtain ⟨⟨k, hk⟩, hid⟩ := opA_put h
    have hm := Store.get_mem hk
    let ro := (s.σ.only ids).less [(id, k)]
    have hro : ∀ x, x ∈ ro ↔ (x ∈ s.σ ∧ x.1 ∈ ids ∧ x.1 ≠ id) := fun x => by
      rw [Store.mem_less, only_mem]; simp [Store.keys, and_assoc]
    have hnd : (Store.keys (ro ++ [(id, k)])).Nodup := by
      rw [kapp]
      refine List.nodup_append.2 ⟨Store.less_nodup (only_nodup hn.nodup ids), by simp [Store.keys], fun a ha b' hb e => ?_⟩
      simp [Store.keys] at hb; subst hb; subst e
      obtain ⟨x, hx, e⟩ := List.mem_map.1 ha
      exact ((hro x).1 hx).2.2 e
    have hsub : ∀ x, x ∈ ro ++ [(id, k)] → x ∈ s.σ := fun x hx => by
      rcases List.mem_append.1 hx with hx | hx
      · exact ((hro x).1 hx).1
      · rw [List.mem_singleton.1 hx]; exact hm
    have hget : ∀ i ∈ ids, Store.get (ro ++ [(id, k)]) i = s.σ.get i := fun i hi => by
      by_cases hik : i ∈ s.σ.keys
      · obtain ⟨⟨i', q⟩, hq, rfl⟩ := List.mem_map.1 hik
        rw [Store.get_eq hn.nodup hq]
        refine Store.get_eq hnd (List.mem_append.2 ?_)
        by_cases e : i' = id
        · right
          have := keys_inj hn.nodup hq hm e
          rw [this]; simp
        · exact .inl ((hro _).2 ⟨hq, hi, e⟩)
      · rw [Store.get_none hik]
        refine Store.get_none fun hmm => hik ?_
        obtain ⟨x, hx, e⟩ := List.mem_map.1 hmm
        exact List.mem_map.2 ⟨x, hsub x hx, e⟩
    refine ⟨ro, [(id, k)], [(id, b)], ?_, hsub, hnd, fun x => ?_, fun i hi => ?_, fun i hi => by simpa [Store.keys, Upd.wr] using hi⟩
    · refine LT.of_ok (fun j' hj' => ⟨_, opA_ok (σ := ro ++ [(id, k)]) (loc hget j' hj'), fun x => ?_⟩) ?_
      · show x ∈ Store.put (ro ++ [(id, k)]) id b ↔ _
        rw [Store.mem_put_iff hnd (k := k) (by simp), List.mem_append, List.mem_append]
        constructor
        · rintro (rfl | ⟨hx | hx, hne⟩)
          · exact .inr (by simp)
          · exact .inl hx
          · rw [List.mem_singleton.1 hx] at hne; exact absurd rfl hne
        · rintro (hx | hx)
          · exact .inr ⟨.inl hx, ((hro x).1 hx).2.2⟩
          · exact .inl (List.mem_singleton.1 hx)
      · have : Store.keys (ro ++ [(id, b)]) = Store.keys (ro ++ [(id, k)]) := by rw [kapp, kapp]; rfl
        rw [this]; exact hnd
    · show x ∈ Store.put s.σ id b ↔ _
      rw [Store.mem_put_iff hn.nodup hm]
      simp [Store.keys]
    · obtain ⟨x, hx, rfl⟩ := List.mem_map.1 hi
      exact ((hro x).1 hx).2.1
theorem opA_idle {P : Program} {lk : Operand → Option V} {get get' : Id → Option Blk} {j j' : Id} {op : Op} (h : idleOp op = true) : opA P lk get' j' op = opA P lk get j op := by
  cases op <;> first | rfl | cases h

theorem opA_reader {P : Program} {lk : Operand → Option V} {get : Id → Option Blk} {j : Id} {op : Op} {v : V} {u : Upd} (hw : writerOp op = false) (h : opA P lk get j op = some (v, u)) : u = .none := by
  unfold opA at h
  split at h
  · cases h; rfl
  · split at h
    · rename_i r hr
      cases h
      unfold storeOp at hr
      split at hr
      · obtain ⟨p, _, h⟩ := Option.bind_eq_some_iff.1 hr
        split at h
        · obtain ⟨k, _, h⟩ := Option.bind_eq_some_iff.1 h
          split at h
          · obtain ⟨_, _, e⟩ := Option.map_eq_some_iff.1 h; cases e; rfl
          · cases h
        · obtain ⟨k, _, h⟩ := Option.bind_eq_some_iff.1 h
          split at h
          · split at h
            · obtain ⟨_, _, h⟩ := Option.bind_eq_some_iff.1 h
              obtain ⟨_, _, e⟩ := Option.map_eq_some_iff.1 h; cases e; rfl
            · cases h
          · cases h
        · cases h
      · cases hw
      · cases hw
      · cases hw
      · cases hr
    · split at h
      · rename_i r hr; cases h; exact (subOp_put (id := (0, 0)) hr).2 hw
      unfold vecOp at h
      split at h
      · rename_i c _ _
        split at h
        · rename_i hcal ha hat
          rw [writerOp] at hw
          rw [hcal] at hw
          cases hw
        · obtain ⟨_, _, h1⟩ := Option.bind_eq_some_iff.1 h
          split at h1
          · split at h1
            · obtain ⟨_, _, h2⟩ := Option.bind_eq_some_iff.1 h1
              split at h2
              · split at h2
                · cases h2; rfl
                · cases h2
              · cases h2
            · cases h1
          · cases h1
        · cases h
      · obtain ⟨_, _, h1⟩ := Option.bind_eq_some_iff.1 h
        obtain ⟨_, _, h2⟩ := Option.bind_eq_some_iff.1 h1
        split at h2
        · obtain ⟨_, _, h3⟩ := Option.bind_eq_some_iff.1 h2
          obtain ⟨_, _, h4⟩ := Option.bind_eq_some_iff.1 h3
          obtain ⟨_, _, h5⟩ := Option.bind_eq_some_iff.1 h4
          split at h5
          · split at h5
            · cases h5; rfl
            · cases h5
          · cases h5
        · cases h2
      · cases hw
      · obtain ⟨_, _, h1⟩ := Option.bind_eq_some_iff.1 h
        obtain ⟨_, _, e⟩ := Option.map_eq_some_iff.1 h1; cases e; rfl
      · obtain ⟨_, _, h1⟩ := Option.bind_eq_some_iff.1 h
        obtain ⟨_, _, e⟩ := Option.map_eq_some_iff.1 h1; cases e; rfl
      · cases h

/-- The small triple of an operation that is no call: with the word on what is idle. -/
theorem plainD' {o : Oper} {s : ASt} {v : V} {u : Upd} (hn : Neat s) (h : opA C.P (lkA C s.τ) s.σ.get (s.lv, s.nx) o.op = some (v, u)) :
    ∃ ro wi wo, LT C o (lkA C s.τ) (ro ++ wi) (s.lv, s.nx) s.lv v (ro ++ wo) u.isNew ∧ (∀ x, x ∈ ro ++ wi → x ∈ s.σ) ∧ (Store.keys (ro ++ wi)).Nodup ∧
      (∀ x, x ∈ u.app s.σ (s.lv, s.nx) ↔ (x ∈ wo ∨ (x ∈ s.σ ∧ x.1 ∉ Store.keys wi))) ∧ (∀ id, id ∈ Store.keys ro → id ∈ touch (lkA C s.τ) o.op.operands.toList) ∧
      (∀ id, (id ∈ Store.keys wi ∨ id ∈ Store.keys wo) → id ∈ u.wr (s.lv, s.nx)) ∧ (idleOp o.op = true → ro = [] ∧ wi = [] ∧ wo = []) ∧ (writerOp o.op = false → wi = [] ∧ wo = []) := by
  by_cases hi : idleOp o.op = true
  · have hw : writerOp o.op = false := by
      revert hi; cases o.op <;> simp [idleOp, writerOp]
    have hu := opA_reader hw h
    subst hu
    refine ⟨[], [], [], LT.of_ok (fun j' _ => ⟨[], opA_ok (σ := []) (u := .none) (by rw [← h]; exact opA_idle hi), fun x => Iff.rfl⟩) (by simp [Store.keys]), by simp, by simp [Store.keys], fun x => by simp [Upd.app, Store.keys], by simp [Store.keys], by simp [Store.keys], fun _ => ⟨rfl, rfl, rfl⟩, fun _ => ⟨rfl, rfl⟩⟩
  · obtain ⟨ro, wi, wo, h1, h2, h3, h4, h5, h6⟩ := plainD hn h
    refine ⟨ro, wi, wo, h1, h2, h3, h4, h5, h6, fun h => absurd h hi, fun hw => ?_⟩
    have hu := opA_reader hw h
    subst hu
    simp only [Upd.wr] at h6
    have nokey : ∀ σ : Store, (∀ id, id ∈ Store.keys σ → False) → σ = [] := fun σ hσ => by
      cases σ with
      | nil => rfl
      | cons x r => exact (hσ x.1 (by simp [Store.keys])).elim
    exact ⟨nokey wi fun id hid => (by simpa using h6 id (.inl hid)), nokey wo fun id hid => (by simpa using h6 id (.inr hid))⟩

theorem LT.call {o : Oper} {s : ASt} {c : Call} {fo : Operand} (hc : o.op = .call c) (hf : c.callee = .value fo) {f : FuncId} {cap args : List V} (hfv : lkA C s.τ fo = some (.func (.func f) [] cap)) (hvs : allV (lkA C s.τ) c.args.toList = some args)
    {args' : List V} {v : V} {ids : List Id} (h : APure C f args' v) (hz : FrzL (Store.only s.σ ids) (args ++ cap) args') (hflat : args' = args ++ cap ∨ v.flat = true) : LT C o (lkA C s.τ) (Store.only s.σ ids) (s.lv, s.nx) s.lv v (Store.only s.σ ids) false := by
  intro E a K Q hs hg _ hρ hk
  have hcall : ACall C f (args ++ cap) { s with σ := Store.only s.σ ids } (fun v' σ' => v' = v ∧ σ' = Store.only s.σ ids) (fun _ _ => False) := by
    rcases hflat with e | e
    · subst e; exact acall_pure (s := { s with σ := Store.only s.σ ids }) h ⟨rfl, rfl⟩
    · exact acall_borrow (s := { s with σ := Store.only s.σ ids }) h hz e ⟨rfl, rfl⟩
  have hff := hρ fo (by rw [hc]; simp [Op.operands, Call.operands, hf]) _ hfv
  have hargs := allV_rep hvs fun x hx v hv => hρ x (by rw [hc]; simp [Op.operands, Call.operands]; exact .inr (by simpa using hx)) v hv
  obtain ⟨cs, hcf, hcap⟩ : ∃ cs, a.eval fo = .func (.func f) #[] (List.toArray cs) ∧ RepL E cap cs := by
    revert hff; generalize a.eval fo = y; intro hy
    cases hy with | func h1 h2 => cases h1; exact ⟨_, rfl, h2⟩
  obtain ⟨⟨fd, hfd, hbody, hname⟩, hcall⟩ := hcall
  have hcalls := hcall E _ hs hg (hargs.append hcap)
  have hrun : (execOp a.eval o).run C.P E.w = .ok (.enter f (c.args.toList.map a.eval ++ cs).toArray) E.w := by
    have e : c.args.map a.eval ++ cs.toArray = (c.args.toList.map a.eval ++ cs).toArray := by rw [← toArray_map]; simp
    have e2 : (#[] : Array Value) ++ c.args.map a.eval ++ cs.toArray = (c.args.toList.map a.eval ++ cs).toArray := by rw [← e]; simp
    simp only [execOp, hc, resolve, hf, Sem.run_bind, Sem.run_pure, Result.andThen_ok, hcf, Deferred.ofValue, invoke, e2]
    generalize (c.args.toList.map a.eval ++ cs).toArray = ar
    have hn' : ¬ fd.name = "runtime.NumGoroutine" := fun e => by rw [e] at hname; simp at hname
    have hb' : ¬ fd.body = none := fun e => by rw [e] at hbody; cases hbody
    simp [callFunc, hfd, hn', hb']
  unfold Oper.wp
  rw [hrun]
  refine Calls.mono hcalls ?_
  rintro e w' ⟨E1, rfl, hb1, hres⟩
  rcases hres with ⟨v', cv, σ', rfl, hv, ⟨rfl, rfl⟩, hs1, hg1⟩ | ⟨_, _, _, _, _, hf, _⟩
  · exact hk E1 cv hv hs1 hg1 fun id hi _ hu => hb1 id hi hu
  · exact hf.elim
theorem lkF_toMS (s : ASt) : lkF C (toMS s).τ = lkA C s.τ := by
  funext x; cases x <;> rfl

theorem guardF_toMS (s : ASt) (o : Oper) : guardF ops (toMS s).τ o = guardA ops s.τ o := by
  unfold guardF guardA toMS
  rfl

theorem put_keys' (σ : Store) (id : Id) (b : Blk) : (σ.put id b).keys = σ.keys := by
  induction σ with
  | nil => rfl
  | cons x r ih =>
    obtain ⟨i, k⟩ := x
    simp only [Store.put]
    split
    · rename_i e; subst e; rfl
    · unfold Store.keys at ih ⊢
      simp only [List.map_cons, ih]

theorem Neat.put {s : ASt} (h : Neat s) (d : Option Tmp) (v : V) : Neat (s.putD d v) := by
  obtain ⟨h1, h2, _, h4⟩ := putD_lv s d v
  exact ⟨by rw [h2]; exact h.nodup, fun k hk => by rw [h1, h2]; rw [h4] at hk; exact h.new k hk⟩

theorem Neat.upd {s : ASt} (h : Neat s) (u : Upd) : Neat (({ s with σ := u.app s.σ (s.lv, s.nx) } : ASt).next u.isNew) := by
  cases u with
  | none => exact ⟨h.nodup, h.new⟩
  | new b =>
    have e : Store.keys ((({ s with σ := (Upd.new b).app s.σ (s.lv, s.nx) } : ASt).next (Upd.new b).isNew).σ) = (s.lv, s.nx) :: s.σ.keys := rfl
    refine ⟨?_, fun k hk => ?_⟩
    · rw [e]; exact List.nodup_cons.2 ⟨h.new _ (Nat.le_refl _), h.nodup⟩
    · rw [e]
      have hk' : s.nx + 1 ≤ k := hk
      show (s.lv, k) ∉ _
      rw [List.mem_cons]
      rintro (e | e)
      · cases e; omega
      · exact h.new k (by omega) e
  | put id b =>
    have e : Store.keys ((({ s with σ := (Upd.put id b).app s.σ (s.lv, s.nx) } : ASt).next (Upd.put id b).isNew).σ) = s.σ.keys := put_keys' _ _ _
    exact ⟨by rw [e]; exact h.nodup, fun k hk => by rw [e]; exact h.new k hk⟩

theorem EnL.congr {N lv : Nat} {D1 D2 : Nat → D} : ∀ {l : List Nat} {m : MS}, (∀ i ∈ l, D1 i = D2 i) → EnL C ops N lv D1 l m → EnL C ops N lv D2 l m
  | [], _, _, _ => trivial
  | i :: l, m, h, ⟨o, h1, h2, h3⟩ => by
    have e := h i List.mem_cons_self
    exact ⟨o, h1, e ▸ h2, EnL.congr (fun i hi => h i (List.mem_cons_of_mem _ hi)) (e ▸ h3)⟩

theorem appL_congr {D1 D2 : Nat → D} : ∀ {l : List Nat} {m : MS}, (∀ i ∈ l, D1 i = D2 i) → appL ops D1 l m = appL ops D2 l m
  | [], _, _ => rfl
  | i :: l, m, h => by
    simp only [appL]
    rw [h i List.mem_cons_self]
    exact appL_congr fun i hi => h i (List.mem_cons_of_mem _ hi)

/-- What is known of a chain of operations. -/
structure Chain (C : Ctx) (ops : Array Oper) (k len : Nat) (s sN : ASt) (D : Nat → D) : Prop where
  en : EnL C ops s.n s.lv D (List.range' k len) (toMS s)
  app : appL ops D (List.range' k len) (toMS s) = toMS sN
  neat : Neat sN
  n : sN.n = s.n
  lv : sN.lv = s.lv
  nx : s.nx ≤ sN.nx
  j1 : ∀ i, (D i).j.1 = s.lv
  j2 : ∀ i, k ≤ i → s.nx ≤ (D i).j.2
  j3 : ∀ i, k ≤ i → i < k + len → (D i).nw = true → (D i).j.2 < sN.nx
  j4 : ∀ i i', k ≤ i → i < i' → (D i).nw = true → i < k + len → i' < k + len → (D i).j.2 < (D i').j.2
  idle : ∀ i o, k ≤ i → i < k + len → ops[i]? = some o → idleOp o.op = true → (D i).ro = [] ∧ (D i).wi = [] ∧ (D i).wo = []
  reads : ∀ i o, k ≤ i → i < k + len → ops[i]? = some o → writerOp o.op = false → (D i).wi = [] ∧ (D i).wo = []

theorem Chain.nil {k : Nat} {s : ASt} (h : Neat s) : Chain C ops k 0 s s fun _ => ⟨false, .tup [], [], [], [], (s.lv, s.nx), false⟩ :=
  ⟨trivial, rfl, h, rfl, rfl, Nat.le_refl _, fun _ => rfl, fun _ _ => Nat.le_refl _, fun _ _ _ h => (by cases h), fun _ _ _ _ h => (by cases h), fun _ _ _ _ _ _ => ⟨rfl, rfl, rfl⟩, fun _ _ _ _ _ _ => ⟨rfl, rfl⟩⟩

theorem Chain.cons {k len : Nat} {s s1 sN : ASt} {o : Oper} {d : D} {D : Nat → D} (ho : ops[k]? = some o) (he : En C ops s.n s.lv o d (toMS s)) (hm : toMS s1 = (toMS s).app o.dst d) (hn : s1.n = s.n) (hl : s1.lv = s.lv)
    (hx : s.nx ≤ s1.nx) (hj : d.j = (s.lv, s.nx)) (hnw : d.nw = true → s.nx < s1.nx) (hid : idleOp o.op = true → d.ro = [] ∧ d.wi = [] ∧ d.wo = []) (hrd : writerOp o.op = false → d.wi = [] ∧ d.wo = []) (h : Chain C ops (k + 1) len s1 sN D) :
    Chain C ops k (len + 1) s sN fun i => if i = k then d else D i := by
  have ne : ∀ i ∈ List.range' (k + 1) len, D i = if i = k then d else D i := fun i hi => by
    have := (List.mem_range'_1.1 hi).1
    rw [if_neg (by omega)]
  have hjk : d.j.1 = s.lv ∧ d.j.2 = s.nx := by rw [hj]; exact ⟨rfl, rfl⟩
  refine ⟨?_, ?_, h.neat, h.n.trans hn, h.lv.trans hl, Nat.le_trans hx h.nx, fun i => ?_, fun i hi => ?_, fun i hi hi' hnw' => ?_, fun i i' hi hii hnw' h1 h2 => ?_, fun i o' hi hi' ho' hb => ?_, fun i o' hi hi' ho' hb => ?_⟩
  · rw [List.range'_succ]
    refine ⟨o, ho, by simpa using he, ?_⟩
    simp only [if_true]
    rw [← hm]
    have := h.en
    rw [hn, hl] at this
    exact this.congr ne
  · rw [List.range'_succ]
    simp only [appL, ho, Option.bind_some, if_pos]
    rw [← hm, ← appL_congr (D1 := D) ne]
    exact h.app
  · split
    · exact hjk.1
    · exact (h.j1 i).trans hl
  · split
    · rw [hjk.2]; exact Nat.le_refl _
    · exact Nat.le_trans hx (h.j2 i (by omega))
  · split at hnw'
    · rename_i e; rw [if_pos e, hjk.2]; exact Nat.lt_of_lt_of_le (hnw hnw') h.nx
    · rename_i e; rw [if_neg e]; exact h.j3 i (by omega) (by omega) hnw'
  · rw [if_neg (show i' ≠ k by omega)]
    split at hnw'
    · rename_i e; rw [if_pos e, hjk.2]; exact Nat.lt_of_lt_of_le (hnw hnw') (h.j2 i' (by omega))
    · rename_i e; rw [if_neg e]; exact h.j4 i i' (by omega) hii hnw' (by omega) (by omega)
  · split
    · rename_i e; subst e; rw [ho] at ho'; cases ho'; exact hid hb
    · exact h.idle i o' (by omega) (by omega) ho' hb
  · split
    · rename_i e; subst e; rw [ho] at ho'; cases ho'; exact hrd hb
    · exact h.reads i o' (by omega) (by omega) ho' hb

theorem runQ_chain {K : ASt → Prop} {X : V → ASt → Prop} : ∀ (l : List Oper) (k : Nat) (s : ASt), (∀ j, l[j]? = ops[k + j]?) → Neat s → runS C true ops l s K X → ∃ sN D, Chain C ops k l.length s sN D ∧ K sN
  | [], k, s, _, hn, h => ⟨s, _, .nil hn, h⟩
  | o :: l, k, s, hops, hn, h => by
    have ho : ops[k]? = some o := by have := hops 0; simpa using this.symm
    have hops' : ∀ j, l[j]? = ops[k + 1 + j]? := fun j => by have := hops (j + 1); simpa [Nat.add_assoc, Nat.add_comm 1 j] using this
    unfold runS guardK at h
    split at h
    case h_2 => exact h.elim
    rename_i gb hga
    obtain ⟨hyes, hno⟩ := h
    have hgf : guardF ops (toMS s).τ o = some gb := (guardF_toMS s o).trans hga
    cases gb
    · obtain ⟨hd, h⟩ := hno rfl
      have hp := putD_lv s o.dst (.tup [])
      obtain ⟨sN, D, hc, hk⟩ := runQ_chain l (k + 1) _ hops' (hn.put o.dst (.tup [])) h
      let d : Awp.D := ⟨false, .tup [], [], [], [], (s.lv, s.nx), false⟩
      exact ⟨sN, _, .cons (d := d) ho ⟨hd, hgf, (by intro h; cases h), fun _ => ⟨rfl, rfl, rfl, rfl, rfl⟩, by simp [d], by simp [d, Store.keys]⟩ (toMS_put s o d s rfl fun x => by simp [d, Store.keys]) hp.2.2.1 hp.1 (Nat.le_of_eq hp.2.2.2.symm) rfl (by intro h; cases h) (fun _ => ⟨rfl, rfl, rfl⟩) (fun _ => ⟨rfl, rfl⟩) hc, hk⟩
    · have h := hyes rfl
      have plain : plainS C o s (fun s' => runS C true ops l s' K X) → ∃ sN D, Chain C ops k (l.length + 1) s sN D ∧ K sN := by
        rintro ⟨hd, v, u, hop, h⟩
        obtain ⟨ro, wi, wo, q1, q2, q3, q4, _, _, q7, q8⟩ := plainD' (C := C) hn hop
        have hnx := hn.upd u
        have hp := putD_lv (({ s with σ := u.app s.σ (s.lv, s.nx) } : ASt).next u.isNew) o.dst v
        obtain ⟨sN, D, hc, hk⟩ := runQ_chain l (k + 1) _ hops' (hnx.put o.dst v) h
        let d : Awp.D := ⟨true, v, ro, wi, wo, (s.lv, s.nx), u.isNew⟩
        refine ⟨sN, _, .cons (d := d) ho ⟨hd, hgf, fun _ => by rw [lkF_toMS]; exact q1, (by intro h; cases h), q2, q3⟩ (toMS_put s o d (({ s with σ := u.app s.σ (s.lv, s.nx) } : ASt).next u.isNew) rfl q4) (hp.2.2.1.trans rfl) (hp.1.trans rfl) ?_ rfl ?_ q7 q8 hc, hk⟩
        · rw [hp.2.2.2]
          show s.nx ≤ if u.isNew = true then s.nx + 1 else s.nx
          split <;> omega
        · intro hu
          have hu : u.isNew = true := hu
          rw [hp.2.2.2]
          show s.nx < if u.isNew = true then s.nx + 1 else s.nx
          rw [if_pos hu]; omega
      unfold stepS at h
      split at h
      · rename_i c hc
        split at h
        · rename_i f hf
          obtain ⟨hd, fn, cap, args, hfv, hvs, args', v, ids, hp, hz, hfl, h⟩ := h
          have hpd := putD_lv ({ s with σ := s.σ } : ASt) o.dst v
          obtain ⟨sN, D, hch, hk⟩ := runQ_chain l (k + 1) _ hops' (Neat.put (s := { s with σ := s.σ }) hn o.dst v) h
          let d : Awp.D := ⟨true, v, Store.only s.σ ids, [], [], (s.lv, s.nx), false⟩
          refine ⟨sN, _, .cons (d := d) ho ⟨hd, hgf, fun _ => ?_, (by intro h; cases h), fun x hx => ?_, ?_⟩ (toMS_put s o d { s with σ := s.σ } rfl fun x => by simp [d, Store.keys]) hpd.2.2.1 hpd.1 (Nat.le_of_eq hpd.2.2.2.symm) rfl (by intro h; cases h) (fun hi => ?_) (fun _ => ⟨rfl, rfl⟩) hch, hk⟩
          · rw [lkF_toMS]
            simp only [d, List.append_nil]
            exact LT.call hc hf hfv hvs hp hz hfl
          · have hx : x ∈ Store.only s.σ ids := by simpa [d] using hx
            exact (only_mem.1 hx).1
          · simpa [d] using only_nodup hn.nodup ids
          · rw [hc] at hi; cases hi
        · exact plain h
      · rw [if_neg (by simp)] at h
        exact plain h
      · exact plain h
end
end Go.Awp

/- AWP, text 21: a statement that draws its order, by one walk in the order of the text. -/
namespace Go.Awp
open Go

/-- What is asked of a statement that draws its order: two of its operations that may stand either way have nothing to do with one another. -/
def regFull (ops : List Oper) : Bool :=
  let P := predAcc ops []
  regOk ops && ops.zipIdx.all fun (o, i) => ops.zipIdx.all fun (o', i') => decide (i ≤ i') || (P.getD i []).contains i' || ((!writerOp o'.op || idleOp o.op) && (!writerOp o.op || idleOp o'.op))

def Amb.bump (E : Amb) : Amb := { E with w := { E.w with drawn := E.w.drawn + 1 } }

theorem bump_le {E : Amb} : E.Le E.bump := ⟨fun _ _ h => h, fun _ _ _ => rfl, fun _ => Loc.Le.refl _⟩

theorem bump_store {E : Amb} {σ : Store} (h : StoreRel E σ) : StoreRel E.bump σ :=
  ⟨fun id b hm => (h.blk id b hm).keep bump_le rfl (fun _ _ => rfl) fun _ _ _ hi => hi, h.nodup, h.apart, h.imm, h.fin⟩

theorem bump_grow {E : Amb} {σ : Store} : Grow E σ E.bump σ :=
  ⟨bump_le, fun _ _ _ => rfl, fun _ _ h => .inl h, fun _ _ _ => rfl, fun _ h => .inl h, fun _ h => .inr h, rfl, rfl, rfl, Nat.le_refl _⟩

section
variable {C : Ctx} {ops : Array Oper}

theorem aw_regionD {id : Nat} {K : AExit → ASt → Prop} {s : ASt} {X : V → ASt → Prop} (hreg : regFull ops.toList = true) (h : runS C true ops ops.toList s (K .normal) X) : AW C (.region id ops true) K s := fun E a hr => by
  unfold regFull at hreg
  simp only [Bool.and_eq_true] at hreg
  obtain ⟨hok, hpairs⟩ := hreg
  have hR := regOk_spec hok
  rw [Array.toArray_toList] at hR
  have hneat : Neat s := ⟨hr.store.nodup, fun k hk hm => by
    obtain ⟨b, _, hb⟩ := hr.store.mem hm
    exact hb.born (hr.own k hk)⟩
  obtain ⟨sN, D, hc, hk⟩ := runQ_chain (C := C) (ops := ops) ops.toList 0 s (fun j => by simp) hneat h
  rw [Array.length_toList] at hc
  have get : ∀ {i : Nat} {o : Oper}, ops[i]? = some o → (o, i) ∈ ops.toList.zipIdx := fun {i o} hi => by
    refine List.mem_zipIdx_iff_getElem?.2 ?_
    simpa using hi
  have pair : ∀ i i' o o', i' < i → ops[i]? = some o → ops[i']? = some o' → i' ∉ (predAcc ops.toList []).getD i [] → (writerOp o'.op = false ∨ idleOp o.op = true) ∧ (writerOp o.op = false ∨ idleOp o'.op = true) := fun i i' o o' hlt ho ho' hn => by
    have h1 := List.all_eq_true.1 hpairs _ (get ho)
    have h2 := List.all_eq_true.1 h1 _ (get ho')
    simp only [Bool.or_eq_true, decide_eq_true_eq, List.contains_iff_mem, Bool.and_eq_true, Bool.not_eq_true'] at h2
    rcases h2 with (h2 | h2) | h2
    · omega
    · exact absurd h2 hn
    · exact h2
  have opAt : ∀ i, i < ops.size → ∃ o, ops[i]? = some o := fun i hi => ⟨_, Array.getElem?_eq_getElem hi⟩
  have hD : DataOk (fun i => (predAcc ops.toList []).getD i []) s.lv D ops.size := by
    refine ⟨fun i i' hlt hi hn id hid => ?_, fun i i' hlt hi hn id hid => ?_, fun i i' hi hi' hne hw hw' e => ?_, fun i _ => hc.j1 i⟩
    · obtain ⟨o, ho⟩ := opAt i hi
      obtain ⟨o', ho'⟩ := opAt i' (by omega)
      rcases (pair i i' o o' hlt ho ho' hn).1 with hq | hq
      · obtain ⟨e1, e2⟩ := hc.reads i' o' (Nat.zero_le _) (by omega) ho' hq
        rw [e1, e2] at hid; simp [Store.keys] at hid
      · obtain ⟨e1, e2, e3⟩ := hc.idle i o (Nat.zero_le _) (by omega) ho hq
        rw [e1, e2, e3]; simp [Store.keys]
    · obtain ⟨o, ho⟩ := opAt i hi
      obtain ⟨o', ho'⟩ := opAt i' (by omega)
      rcases (pair i i' o o' hlt ho ho' hn).2 with hq | hq
      · obtain ⟨e1, e2⟩ := hc.reads i o (Nat.zero_le _) (by omega) ho hq
        rw [e1, e2] at hid; simp [Store.keys] at hid
      · obtain ⟨e1, e2, e3⟩ := hc.idle i' o' (Nat.zero_le _) (by omega) ho' hq
        rw [e1]; simp [Store.keys]
    · rcases Nat.lt_or_gt_of_ne hne with hlt | hlt
      · have := hc.j4 i i' (Nat.zero_le _) hlt hw (by omega) (by omega)
        rw [e] at this; omega
      · have := hc.j4 i' i (Nat.zero_le _) hlt hw' (by omega) (by omega)
        rw [e] at this; omega
  refine wp_region_any C.mixed ?_
  have hrm : RelM C s.n s.lv (toMS s) E.bump a := ⟨fun t v hv => (hr.tmp t v hv).mono bump_le, hr.size, ⟨s.σ, bump_store hr.store, fun x => Iff.rfl⟩, hr.glob.mono bump_le⟩
  have hfin := any_sound (C := C) (ops := ops) (N := s.n) (lv := s.lv) hR hD (Q := fun e a' w' => ∃ E' ae s', Post C K s E a e a' w' E' ae s') (List.range' 0 ops.size) (Array.replicate ops.size false) (toMS s) E.bump a ?_ (by simp) ?_ ?_ hrm hc.en ?_ ?_
  · rw [List.length_range'] at hfin
    exact hfin
  · intro i
    rw [List.mem_range'_1]
    constructor
    · intro hi
      have : i < ops.size := by omega
      exact ⟨this, by simp [this]⟩
    · rintro ⟨hi, _⟩; omega
  · exact List.pairwise_lt_range'
  · intro i hi hli
    simp [hi] at hli
  · intro i hi hw hnw
    have hj1 := hc.j1 i
    have hj2 := hc.j2 i (Nat.zero_le _)
    have : (D i).j = (s.lv, (D i).j.2) := by rw [← hj1]
    rw [this]
    exact hr.own _ hj2
  · intro E' a' hrm' hg hd hb
    rw [hc.app] at hrm' hg
    obtain ⟨σ', hst', hmem'⟩ := hrm'.store
    have hrel : Rel C sN E' a' := by
      refine ⟨hrm'.tmp, by rw [hc.n]; exact hrm'.size, hst'.part (fun x hx => (hmem' x).2 hx) hc.neat.nodup, fun k hk => ?_, hrm'.glob⟩
      rw [hc.lv]
      refine hb (s.lv, k) (Nat.le_refl _) (fun i hi hnw e => ?_) (hr.own k (Nat.le_trans hc.nx hk))
      have hi' := (List.mem_range'_1.1 hi).2
      have := hc.j3 i (Nat.zero_le _) hi' hnw
      rw [← e] at this
      simp only at this; omega
    refine ⟨E', .normal, sN, rfl, .normal, hk, hrel, bump_grow.trans (hg s.σ sN.σ (fun _ => Iff.rfl) (fun _ => Iff.rfl)), hd, hc.lv, fun id hi hu => hb id (by omega) (fun i _ _ e => ?_) hu⟩
    have := hc.j1 i
    rw [← e] at this; omega
end
end Go.Awp
