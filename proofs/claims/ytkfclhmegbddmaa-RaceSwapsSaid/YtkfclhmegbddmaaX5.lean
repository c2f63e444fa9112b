/- BraidPairs: walked. -/
import Derived.Test.YtkfclhmegbddmaaX4
import Derived.Test.YtkfclhmegbddmaaX3
import Derived.Scope
set_option linter.all false
namespace Go.Awp.R1
open Go Go.Awp Go.Proofs Go.Awp.B

def pairB (x y : List Ev) (a b : Ev) : Bool := !(depend a b && !decide (onlyP x a b = onlyP y a b))
theorem pairs_iff {x y : List Ev} (h : y.Perm x) : (x.all fun a => x.all (pairB x y a)) = decide (formP x = formP y) := by
  rw [Bool.eq_iff_iff]
  simp only [List.all_eq_true, decide_eq_true_eq]
  rw [form_iff]
  constructor
  · intro hh
    refine pairs_eqv x y h.symm fun a ha b hb hd => ?_
    have := hh a ha b hb
    simpa [pairB, hd] using this
  · intro hq a _ b _
    cases hd : depend a b with
    | false => simp -implicitDefEqProofs [pairB, hd]
    | true => simp -implicitDefEqProofs [pairB, hd, eqv_only hq hd]

set_option maxRecDepth 100000 in
theorem BraidPairs_ok (l : List EE) (order : List Nat) (hl : short l) (ht : ∀ e ∈ l, e.t ≤ 255) (ho : short order) (hot : ∀ k ∈ order, k ≤ 255) :
    APure TC 7 [.slice (l.map encEE), .slice (order.map encB)] (.bool true) := by
  refine afn_enter Try.func7 rfl rfl rfl (by decide) (Nat.le_of_ble_eq_true rfl) (by kernel_rfl) fun L K hL hR hN hP => ?_
  simp -implicitDefEqProofs
  refine CallF.pure Awake12_ok (by decide) ?_
  simp -implicitDefEqProofs
  refine CallF.pure (Light_ok l 12 hl) (by decide) ?_
  rcases hlt : lightP l 12 <;> simp -implicitDefEqProofs
  · exact hR _ (.pure rfl (.refl _))
  have h := lit_of (n := 12) hlt (by decide) ht
  have hf := h.few
  have h12 := h.evs
  refine CallF.pure h.evs_ok (by decide) ?_
  generalize eventsP l = x at *
  simp -implicitDefEqProofs
  refine CallF.made (Clone_ok x hf.len) (by decide) rfl ?_
  intro L' k' ver h1 h2
  have n1 : L ≠ L' := by omega
  simp -implicitDefEqProofs [n1, n1.symm]
  refine wait_turn (turn_thaw (t := 7) (el := 38) (sz := 2) (by simp -implicitDefEqProofs) (by decide)) ?_
  refine loopJ (α := Nat × List Ev × List Ev × Nat) (fun y => y.1 ≤ x.length ∧ y.2.2.1.length = y.1 ∧ y.2.1.length + y.1 = x.length ∧ (y.2.1 ++ y.2.2.1).Perm x)
    (fun y => [(1, .slice (order.map encB)), (5, .slice (x.map encE)), (6, .vec (L', k') y.2.2.2), (7, .vec (L, 0) y.1), (26, .int .i64 x.length), (27, .int .i64 y.1)])
    (fun y => [((L, 0), .vec 38 2 (y.2.2.1.map encE) y.1 true), ((L', k'), .vec 38 2 (y.2.1.map encE) y.2.2.2 true)]) (fun y => x.length - y.1) (0, x, [], ver) ⟨by simp -implicitDefEqProofs, rfl, by simp -implicitDefEqProofs, by simp -implicitDefEqProofs⟩ (turn_weak (by simp -implicitDefEqProofs) (by simp -implicitDefEqProofs) (by simp -implicitDefEqProofs)) ?_
  rintro ⟨i, left, y, v⟩ L1 K1 ⟨hi, hyl, hll, hp⟩ hL1 hk1 hnext hex hrt - -
  simp -implicitDefEqProofs at hi hyl hll hp hL1 hk1
  have n2 : L ≠ L1 := hk1.1
  have n3 : L' ≠ L1 := hk1.2
  simp -implicitDefEqProofs
  refine CondC.mk (fun hb => ?_) (fun hb => ?_)
  · have hlt : i < x.length := by simpa using hb
    have hpos : 0 < left.length := by omega
    have c1 : i ≤ 9223372036854775806 := by omega
    have c2 : (i + 1) * 32 ≤ 140737488355328 := by omega
    -- what follows, once k is known
    have fin : ∀ k, k < left.length → ∀ τ', τ'.lookup 6 = some (.vsub (L', k') v 2 0 (left.length - 1)) → (∀ p, p ∈ [((1 : Nat), V.slice (order.map encB)), (5, .slice (x.map encE)), (7, .vec (L, 0) (i + 1)), (26, .int .i64 x.length), (27, .int .i64 (i + 1 : Nat))] → τ'.lookup p.1 = some p.2) →
        K1 .normal ⟨τ', [((L', k'), .vec 38 2 ((left.eraseIdx k).map encE ++ [.agg [.int .i64 0, .snil]]) v true), ((L, 0), .vec 38 2 ((y ++ [left.getD k default]).map encE) (i + 1) true)], 90, L1, 0⟩ := by
      intro k hk τ' h6 hτ
      have hel : (left.eraseIdx k).length = left.length - 1 := List.length_eraseIdx_of_lt hk
      have hgd : left.getD k default = left[k] := by rw [List.getD_eq_getElem?_getD, List.getElem?_eq_getElem hk]; rfl
      refine hnext ⟨τ', _, 90, L1, 0⟩ (i + 1, left.eraseIdx k, y ++ [left.getD k default], v + 1) ⟨by simp -implicitDefEqProofs; omega, by simp -implicitDefEqProofs; omega, by show (left.eraseIdx k).length + (i + 1) = x.length; omega, by rw [hgd]; exact pick_perm hp hk⟩ (by show x.length - (i + 1) < x.length - i; omega) ?_
      refine (turn_cut (t := 6) (id := L') (j := k') (ver := v) (z := 2) (el := 38) (len := left.length - 1) (es := (left.eraseIdx k).map encE ++ [.agg [.int .i64 0, .snil]]) h6 (by simp -implicitDefEqProofs) (by simp -implicitDefEqProofs; omega)).trans (turn_weak ?_ (by simp -implicitDefEqProofs [n1, n1.symm, hel]) (by simp -implicitDefEqProofs [n1, n1.symm]))
      intro p hp
      have : p = (6, .vec (L', k') (v + 1)) ∨ p ∈ [((1 : Nat), V.slice (order.map encB)), (5, .slice (x.map encE)), (7, .vec (L, 0) (i + 1)), (26, .int .i64 x.length), (27, .int .i64 (i + 1 : Nat))] := by
        simp -implicitDefEqProofs at hp ⊢; rcases hp with h | h | h | h | h | h <;> simp -implicitDefEqProofs [h]
      rcases this with rfl | hp'
      · simp -implicitDefEqProofs
      · have h1 := hτ p hp'
        have : p.1 ≠ 6 := by simp -implicitDefEqProofs at hp'; rcases hp' with h | h | h | h | h <;> simp -implicitDefEqProofs [h]
        have hb : (p.1 == 6) = false := by simpa using this
        simp -implicitDefEqProofs [List.lookup_cons, hb, h1]
    by_cases hio : i < order.length
    · have hv := hot _ (List.getElem_mem hio)
      generalize hx : order[i] = u at hv
      have hrem : Int.tmod (u : Int) ((min left.length 2 : Nat) : Int) = ((u % min left.length 2 : Nat) : Int) := by rw [Int.tmod_eq_emod_of_nonneg (by omega)]; rfl
      have hk0 : u % min left.length 2 < min left.length 2 := Nat.mod_lt _ (by omega)
      have hk : u % min left.length 2 < left.length := by omega
      have hmn : (if (2 : Int) < (left.length : Int) then (2 : Int) else left.length) = ((min left.length 2 : Nat) : Int) := by split <;> omega
      have hm0 : ¬ ((min left.length 2 : Nat) : Int) = 0 := by omega
      have hl0 : ¬ left.length = 0 := by omega
      have hl0' : ¬ left = [] := by intro e; subst e; simp -implicitDefEqProofs at hl0
      generalize u % min left.length 2 = k at hrem hk hk0
      have hgd : left.getD k default = left[k] := by rw [List.getD_eq_getElem?_getD, List.getElem?_eq_getElem hk]; rfl
      have f1 := fin k hk
      rw [hgd] at f1
      simp -implicitDefEqProofs [hio, hx, wrN u (by omega), hrem, hl0', hmn, hm0, hk, n1, n1.symm, n2, n2.symm, n3, n3.symm, hyl, c1, c2, wr1 k (by omega)]
      refine CallF.gen (DelEv_ok (L', k') v left k (by have := hf.len; omega) hk) (by simp -implicitDefEqProofs [n1, n1.symm]) (by simp -implicitDefEqProofs) (by decide) rfl ?_ ?_
      · rintro L'' w σ' q1 q2 ⟨e, rfl⟩
        cases e
        simp -implicitDefEqProofs [Store.less, n1, n1.symm, wr1 i (by omega)]
        simpa using f1 _ (by simp -implicitDefEqProofs) (by simp -implicitDefEqProofs)
      · rintro L'' w σ' q1 q2 ⟨e, rfl⟩
        cases e
    · have hgd : left.getD 0 default = left[0] := by rw [List.getD_eq_getElem?_getD, List.getElem?_eq_getElem hpos]; rfl
      have f1 := fin 0 hpos
      rw [hgd] at f1
      simp -implicitDefEqProofs [hio, hpos, n1, n1.symm, n2, n2.symm, n3, n3.symm, hyl, c1, c2]
      refine CallF.gen (DelEv_ok (L', k') v left 0 (by have := hf.len; omega) hpos) (by simp -implicitDefEqProofs [n1, n1.symm]) (by simp -implicitDefEqProofs) (by decide) rfl ?_ ?_
      · rintro L'' w σ' q1 q2 ⟨e, rfl⟩
        cases e
        simp -implicitDefEqProofs [Store.less, n1, n1.symm, wr1 i (by omega)]
        simpa using f1 _ (by simp -implicitDefEqProofs) (by simp -implicitDefEqProofs)
      · rintro L'' w σ' q1 q2 ⟨e, rfl⟩
        cases e
  refine hex _ _ ?_
  have hin : ¬ i < x.length := by simpa using hb
  have hl0 : left = [] := List.eq_nil_of_length_eq_zero (by omega)
  subst hl0
  simp -implicitDefEqProofs at hp
  have hyf := perm_few hf hp
  have hpi := pairs_iff hp
  have s1 := SameP_ok x y hf hyf
  have e1 : sameP x y = decide (formP x = formP y) := rfl
  rw [e1, ← hpi] at s1
  simp -implicitDefEqProofs
  refine loopJ (α := Nat × Bool) (fun z => z.1 ≤ x.length ∧ z.2 = (x.take z.1).all fun a => x.all (pairB x y a))
    (fun z => [(5, .slice (x.map encE)), (7, .slice (y.map encE)), (10, .bool z.2), (56, .slice (x.map encE)), (57, .int .i64 x.length), (58, .int .i64 z.1)])
    (fun _ => []) (fun z => x.length - z.1) (0, true) (by simp -implicitDefEqProofs)
    (turn_frz [((L, 0), .vec 38 2 (y.map encE) i true)] [] (by simp -implicitDefEqProofs; exact .vec (t := 38) (s := 2) (es := y.map encE) (wr := true) (by simp -implicitDefEqProofs) (frzL_refl _)) (by simp -implicitDefEqProofs) (by simp -implicitDefEqProofs) (by simp -implicitDefEqProofs) (by simp -implicitDefEqProofs) .nil) ?_
  rintro ⟨p, w⟩ L2 K2 ⟨hp1, hw⟩ hL2 - hnext2 hex2 hrt2 - -
  simp -implicitDefEqProofs at hp1 hw hL2
  simp -implicitDefEqProofs
  refine CondC.mk (fun hb => ?_) (fun hb => ?_)
  · have hlt : p < x.length := by simpa using hb
    have has := all_take_succ (fun a => x.all (pairB x y a)) hlt
    rw [← hw] at has
    have hxa : x[p]? = some x[p] := List.getElem?_eq_getElem hlt
    have hma := hf.m _ (List.getElem_mem hlt)
    generalize x[p] = a at has hxa hma
    simp -implicitDefEqProofs [hxa]
    refine loopJ (α := Nat × Bool) (fun z => z.1 ≤ x.length ∧ z.2 = (w && (x.take z.1).all (pairB x y a)))
      (fun z => [(5, .slice (x.map encE)), (7, .slice (y.map encE)), (10, .bool z.2), (12, .ptr (L2, 0) 0), (56, .slice (x.map encE)), (57, .int .i64 x.length), (58, .int .i64 p), (62, .slice (x.map encE)), (63, .int .i64 x.length), (64, .int .i64 z.1)])
      (fun _ => [((L2, 0), .cells 38 (encE a).cells)]) (fun z => x.length - z.1) (0, w) (by simp -implicitDefEqProofs) (turn_weak (by simp -implicitDefEqProofs) (by simp -implicitDefEqProofs) (by simp -implicitDefEqProofs)) ?_
    rintro ⟨q, w'⟩ L3 K3 ⟨hq1, hw'⟩ hL3 - hnext3 hex3 hrt3 - -
    simp -implicitDefEqProofs at hq1 hw' hL3
    have n3 : L2 ≠ L3 := by omega
    simp -implicitDefEqProofs
    refine CondC.mk (fun hb => ?_) (fun hb => ?_)
    · have hlt : q < x.length := by simpa using hb
      have has2 := all_take_succ (pairB x y a) hlt
      have hxb : x[q]? = some x[q] := List.getElem?_eq_getElem hlt
      have hmb := hf.m _ (List.getElem_mem hlt)
      generalize x[q] = b at has2 hxb hmb
      have o1 := Only_ok x a b hf (by show _ ≤ _; omega) (by show _ ≤ _; omega)
      have o2 := Only_ok y a b hyf (by show _ ≤ _; omega) (by show _ ≤ _; omega)
      have o3 := Equal_ok _ _ (few_only hf a b) (few_only hyf a b)
      simp -implicitDefEqProofs [hxb, n3, n3.symm]
      refine CallF.pure (Depend_ok a b (by omega) (by omega)) (by decide) ?_
      have nx : ∀ w2, w2 = (w' && pairB x y a b) → w2 = (w && (x.take (q + 1)).all (pairB x y a)) := fun w2 e => by rw [has2, e, hw']; cases w <;> simp -implicitDefEqProofs
      rcases hd : depend a b <;> simp -implicitDefEqProofs [n3, n3.symm, wr1 q (by omega)]
      · exact hnext3 _ (q + 1, w') ⟨by simp -implicitDefEqProofs; omega, nx _ (by simp -implicitDefEqProofs [pairB, hd])⟩ (by simp -implicitDefEqProofs; omega) (turn_weak (by simp -implicitDefEqProofs) (by simp -implicitDefEqProofs) (by simp -implicitDefEqProofs))
      · refine CallF.pure o1 (by decide) ?_
        simp -implicitDefEqProofs [n3, n3.symm]
        refine CallF.pure o2 (by decide) ?_
        simp -implicitDefEqProofs
        refine CallF.pure o3 (by decide) ?_
        rcases heq : decide (onlyP x a b = onlyP y a b) <;> simp -implicitDefEqProofs [wr1 q (by omega)]
        · exact hnext3 _ (q + 1, false) ⟨by simp -implicitDefEqProofs; omega, nx _ (by simp -implicitDefEqProofs [pairB, hd, heq])⟩ (by simp -implicitDefEqProofs; omega) (turn_weak (by simp -implicitDefEqProofs) (by simp -implicitDefEqProofs) (by simp -implicitDefEqProofs))
        · exact hnext3 _ (q + 1, w') ⟨by simp -implicitDefEqProofs; omega, nx _ (by simp -implicitDefEqProofs [pairB, hd, heq])⟩ (by simp -implicitDefEqProofs; omega) (turn_weak (by simp -implicitDefEqProofs) (by simp -implicitDefEqProofs) (by simp -implicitDefEqProofs))
    · refine hex3 _ _ ?_
      have hqn : ¬ q < x.length := by simpa using hb
      rw [List.take_of_length_le (by omega)] at hw'
      simp -implicitDefEqProofs [wr1 p (by omega)]
      exact hnext2 _ (p + 1, w') ⟨by simp -implicitDefEqProofs; omega, by rw [has]; exact hw'⟩ (by simp -implicitDefEqProofs; omega) (turn_weak (by simp -implicitDefEqProofs) (by simp -implicitDefEqProofs) (by simp -implicitDefEqProofs))
  · refine hex2 _ _ ?_
    have hpn : ¬ p < x.length := by simpa using hb
    rw [List.take_of_length_le (by omega)] at hw
    subst hw
    simp -implicitDefEqProofs
    refine CallF.pure s1 (by decide) ?_
    simp -implicitDefEqProofs
    exact hR _ (.pure rfl (.refl _))
end Go.Awp.R1

/- Arguments of the statements on events. -/
namespace Go.Awp.R1
open Go Go.Awp Go.Proofs Go.Awp.B

set_option maxRecDepth 100000 in
theorem ee_arg {H : Type} {enc : TypeId × Value → H} {w : World} {base : Nat} {spare : Nat → Bool} {held : Bool} {v : Value} {q : DataW H} {ps : List MemPlace}
    (ht : DataW.Trod enc Try.prog w base spare held 22 v q ps) (hv : ∃ a len cap, v = .slice a len cap) :
    ∃ l : List EE, Rep (Amb.start w) (.slice (l.map encEE)) v ∧ short l ∧ ∀ e ∈ l, e.t ≤ 255 := by
  obtain ⟨css, h1, h2, h3⟩ := slice_arg (d := 5) Try.underlying22 (by kernel_rfl) ht hv
  have key : ∀ cs ∈ css, ∃ e : EE, cs = (encEE e).cells ∧ e.t ≤ 255 := by
    intro cs hc
    have h4 := h3 cs hc
    unfold Sh at h4
    rw [Try.underlying69] at h4
    obtain ⟨ys, zs, rfl, hy1, hy2, us, ws, rfl, hu1, hu2, rfl⟩ := h4
    unfold Sh at hy2 hu2
    rw [Try.underlying5] at hy2
    rw [Try.underlying67] at hu2
    obtain ⟨n, rfl, hn⟩ := hy2
    obtain ⟨tss, rfl, _, hts⟩ := hu2
    have key2 : ∀ cs ∈ tss, ∃ e : Tch, cs = (encT e).cells ∧ True := by
      intro cs hc
      have h4 := hts cs hc
      unfold Sh at h4
      rw [Try.underlying92] at h4
      obtain ⟨ys, zs, rfl, hy1, hy2, us, ws, rfl, hu1, hu2, rfl⟩ := h4
      unfold Sh at hy2 hu2
      rw [Try.underlying90] at hy2
      rw [Try.underlying4] at hu2
      obtain ⟨m, rfl, _⟩ := hy2
      obtain ⟨b, rfl⟩ := hu2
      exact ⟨⟨m, b⟩, rfl, trivial⟩
    obtain ⟨ts, rfl, _⟩ := choose_map key2
    have hn2 : 0 ≤ n ∧ n ≤ 255 := by simpa [Lit.wf, IntKind.min, IntKind.max, IntKind.signed, IntKind.bits] using hn
    refine ⟨⟨n.toNat, ts⟩, ?_, by show n.toNat ≤ 255; omega⟩
    have e1 : ((n.toNat : Nat) : Int) = n := by omega
    simp -implicitDefEqProofs [encEE, e1]
    intro a _
    simp -implicitDefEqProofs [vOf, Try.underlying92, encT]
  obtain ⟨l, rfl, hl⟩ := choose_map key
  refine ⟨l, ?_, by simp -implicitDefEqProofs at h2; have : maxLen ≤ 9223372036854775807 := by decide
                    show _ ≤ _; omega, hl⟩
  rw [List.map_map] at h1
  have : (vOf Try.prog 69) ∘ (fun e : EE => (encEE e).cells) = encEE := by
    funext e
    simp -implicitDefEqProofs [vOf, Try.underlying69, encEE]
  rwa [show (vOf Try.prog 69) ∘ (fun e : EE => (encEE e).cells) = encEE from this] at h1

theorem u8_wf {n : Int} (h : (Lit.int .u8 n).wf = true) : 0 ≤ n ∧ n ≤ 255 := by simpa [Lit.wf, IntKind.min, IntKind.max, IntKind.signed, IntKind.bits] using h

set_option maxRecDepth 100000 in
theorem bytes_arg {H : Type} {enc : TypeId × Value → H} {w : World} {base : Nat} {spare : Nat → Bool} {held : Bool} {v : Value} {q : DataW H} {ps : List MemPlace}
    (ht : DataW.Trod enc Try.prog w base spare held 42 v q ps) (hv : ∃ a len cap, v = .slice a len cap) :
    ∃ l : List Nat, Rep (Amb.start w) (.slice (l.map encB)) v ∧ short l ∧ ∀ k ∈ l, k ≤ 255 := by
  obtain ⟨css, h1, h2, h3⟩ := slice_arg (d := 5) Try.underlying42 (by kernel_rfl) ht hv
  have key : ∀ cs ∈ css, ∃ e : Nat, cs = (encB e).cells ∧ e ≤ 255 := by
    intro cs hc
    have h4 := h3 cs hc
    unfold Sh at h4
    rw [Try.underlying5] at h4
    obtain ⟨n, rfl, hn⟩ := h4
    have hn2 := u8_wf hn
    have e1 : ((n.toNat : Nat) : Int) = n := by omega
    exact ⟨n.toNat, by simp -implicitDefEqProofs [encB, e1], by omega⟩
  obtain ⟨l, rfl, hl⟩ := choose_map key
  refine ⟨l, ?_, by simp -implicitDefEqProofs at h2; have : maxLen ≤ 9223372036854775807 := by decide
                    show _ ≤ _; omega, hl⟩
  rw [List.map_map] at h1
  have : (vOf Try.prog 5) ∘ (fun e : Nat => (encB e).cells) = encB := by
    funext e
    simp -implicitDefEqProofs [vOf, Try.underlying5, encB]
  rwa [this] at h1
end Go.Awp.R1

/- Races, in plain words. -/
namespace Go.Awp.B

/-- What happens ahead of an event, by the statement's own loops: the rows of those below it. -/
def isAhead (l : List Ev) (out : List (List Nat)) (j i : Nat) : Bool :=
  (List.range' (i + 1) (j - (i + 1))).foldl (fun ok k => if (depend (at' l k) (at' l j) && (out.getD k []).contains i) = true then true else ok) (depend (at' l i) (at' l j))
def aheadRow (l : List Ev) (out : List (List Nat)) (j : Nat) : List Nat := (List.range j).filter (isAhead l out j)
def aheadN (l : List Ev) (k : Nat) : List (List Nat) := (List.range k).foldl (fun out j => out ++ [aheadRow l out j]) []
def aheadP (l : List Ev) : List (List Nat) := aheadN l l.length

/-- A race. -/
structure Rc where
  a : Int
  b : Int
  deriving DecidableEq

/-- Of an event: the program's, and the statement's. -/
def raceOk (l : List Ev) (j i : Nat) : Bool :=
  !((at' l i).t == (at' l j).t || !depend (at' l i) (at' l j)) && (List.range' (i + 1) (j - (i + 1))).all fun k => !(beforeP l i k && beforeP l k j)
def raceRow (l : List Ev) (j : Nat) : List Rc := ((List.range j).filter (raceOk l j)).map fun (i : Nat) => ⟨(i : Int), (j : Int)⟩
def racesP (l : List Ev) : List Rc := (List.range l.length).flatMap (raceRow l)
def raceOkL (l : List Ev) (j i : Nat) : Bool :=
  (List.range' (i + 1) (j - (i + 1))).foldl (fun ok k => ok && !(((aheadP l).getD k []).contains i && ((aheadP l).getD j []).contains k)) ((at' l i).t != (at' l j).t && depend (at' l i) (at' l j))
def raceRowL (l : List Ev) (j : Nat) : List Rc := ((List.range j).filter (raceOkL l j)).map fun (i : Nat) => ⟨(i : Int), (j : Int)⟩
def racesL (l : List Ev) : List Rc := (List.range l.length).flatMap (raceRowL l)

theorem aheadN_succ (l : List Ev) (k : Nat) : aheadN l (k + 1) = aheadN l k ++ [aheadRow l (aheadN l k) k] := by
  unfold aheadN; rw [List.range_succ, List.foldl_append]; rfl
theorem aheadN_length (l : List Ev) (k : Nat) : (aheadN l k).length = k := by
  induction k with
  | zero => rfl
  | succ k ih => rw [aheadN_succ]; simp [ih]
theorem aheadN_rows (l : List Ev) (k : Nat) : ∀ c ∈ aheadN l k, c.length ≤ k ∧ ∀ i ∈ c, i < k := by
  induction k with
  | zero => simp [aheadN]
  | succ k ih =>
    rw [aheadN_succ]
    intro c hc
    rcases List.mem_append.1 hc with hc | hc
    · obtain ⟨h1, h2⟩ := ih c hc; exact ⟨by omega, fun i hi => by have := h2 i hi; omega⟩
    · rw [List.mem_singleton.1 hc]
      unfold aheadRow
      refine ⟨by have := List.length_filter_le (isAhead l (aheadN l k) k) (List.range k); simp at this; omega, fun i hi => ?_⟩
      have := (List.mem_filter.1 hi).1
      simp at this; omega
end Go.Awp.B

namespace Go.Awp.B
def turnedN (l : List Ev) (a b : Nat) : List Ev := l.take a ++ ((List.range' (a + 1) (b - (a + 1))).filter fun k => !beforeP l a k).map (at' l) ++ [at' l b]
/-- What is left when a race is turned. -/
def turnedP (l : List Ev) (r : Rc) : List Ev := if r.a < 0 ∨ r.b ≤ r.a ∨ (l.length : Int) ≤ r.b then [] else turnedN l r.a.toNat r.b.toNat
theorem raceRow_len (l : List Ev) (j : Nat) : (raceRow l j).length ≤ j := by
  unfold raceRow; rw [List.length_map]
  have := List.length_filter_le (raceOk l j) (List.range j); simpa using this
theorem raceRowL_len (l : List Ev) (j : Nat) : (raceRowL l j).length ≤ j := by
  unfold raceRowL; rw [List.length_map]
  have := List.length_filter_le (raceOkL l j) (List.range j); simpa using this
end Go.Awp.B

/- AWP, text 26: scopes through which no jump goes. -/
namespace Go.Awp
open Go

section
variable {C : Ctx} {K : AExit → ASt → Prop}

def NoGoto (K : AExit → ASt → Prop) : AExit → ASt → Prop
  | .goto _, _ => False
  | e, s => K e s

theorem aw_scope {c : Code} {s : ASt} (h : AW C c (NoGoto K) s) : AW C (.scope c) K s := fun E a hr => by
  refine wp_scope_straight (wp_mono (h E a hr) ?_)
  rintro e a1 w1 ⟨E1, ae, s1, p⟩
  have hx := p.exit
  have hk := p.k
  cases hx with
  | normal => exact ⟨E1, _, s1, { p with k := hk }⟩
  | exit i => exact ⟨E1, _, s1, { p with k := hk }⟩
  | goto l => exact hk.elim
  | ret => exact ⟨E1, _, s1, { p with k := hk }⟩
  | panic h => exact ⟨E1, _, s1, { p with k := hk }⟩

theorem scopeJ {c : Code} {st : List Fr} {s : ASt}
    (round : ∀ K', (∀ s', go C 1000000 .done st K s' → K' .normal s') → (∀ id s', go C 1000000 (.exit id) st K s' → K' (.exit id) s') → (∀ s', K .ret s' → K' .ret s') → (∀ v s', K (.panic v) s' → K' (.panic v) s') →
      go C 1000000 (.code c) [] K' s) : Wait C (.scope c) st K s := by
  intro hcode hst
  refine aw_scope (go_sound 1000000 (.code c) [] _ _ (fun c' e => by cases e; exact hcode) rfl (round _ ?_ ?_ ?_ ?_))
  · intro s' h
    exact go_sound _ _ _ _ _ (fun c e => by cases e) hst h
  · intro id s' h
    exact go_sound _ _ _ _ _ (fun c e => by cases e) hst h
  · intro s' h
    show unst C st K .ret _
    rw [unst_ret]; exact h
  · intro v s' h
    show unst C st K (.panic v) _
    rw [unst_panic]; exact h
end
end Go.Awp

/- Races: what they look at. -/
namespace Go.Awp.R1
open Go Go.Awp Go.Proofs Go.Awp.B

theorem IndexI_ok (l : List Nat) (v : Nat) (hl : short l) : APure TC 58 [.slice (l.map encI), encI v] (.int .i64 (ix l (fun x => v == x))) := by
  refine afn_enter Try.func58 rfl rfl rfl (by decide) (Nat.le_of_ble_eq_true rfl) (by kernel_rfl) fun L K hL hR hN hP => ?_
  simp -implicitDefEqProofs
  refine loopJ (α := Nat) (fun k => k ≤ l.length ∧ ∀ i (hi : i < l.length), i < k → (v == l[i]) = false)
    (fun k => [(0, .slice (l.map encI)), (1, encI v), (7, .int .i64 l.length), (8, .int .i64 k)]) (fun _ => []) (fun k => l.length - k) 0 (by simp -implicitDefEqProofs) (turn_weak (by simp -implicitDefEqProofs) (by simp -implicitDefEqProofs) (by simp -implicitDefEqProofs)) ?_
  rintro k L1 K1 ⟨hk, hpre⟩ hL1 _ hnext hex hrt - -
  simp -implicitDefEqProofs
  refine CondC.mk (fun hb => ?_) (fun hb => ?_)
  · have hlt : k < l.length := by simpa using hb
    have hx : l[k]? = some l[k] := List.getElem?_eq_getElem hlt
    rcases hp : (v == l[k]) with _ | _
    · have hp' : ((v : Int) == (l[k] : Int)) = false := by rw [int_beq]; simpa using hp
      simp -implicitDefEqProofs [hx, hp', wr1 k (by omega)]
      refine hnext _ (k + 1) ⟨by omega, fun i hi hik => ?_⟩ (by omega) (turn_weak (by simp -implicitDefEqProofs) (by simp -implicitDefEqProofs) (by simp -implicitDefEqProofs))
      by_cases e : i = k
      · subst e; exact hp
      · exact hpre i hi (by omega)
    · have hp' : ((v : Int) == (l[k] : Int)) = true := by rw [int_beq]; simpa using hp
      simp -implicitDefEqProofs [hx, hp']
      refine hrt _ ?_
      refine hR _ (.pure rfl ?_)
      rw [ix_some hlt hp hpre]
      exact .refl _
  · refine hex _ _ ?_
    simp -implicitDefEqProofs
    refine hR _ (.pure rfl ?_)
    have hkn : ¬ k < l.length := by simpa using hb
    rw [ix_none fun i hi => hpre i hi (by omega)]
    exact .refl _

theorem any_contains {α : Type} [BEq α] [LawfulBEq α] (l : List α) (v : α) : (l.any fun x => v == x) = l.contains v := by
  rw [Bool.eq_iff_iff, List.any_eq_true, List.contains_iff_mem]
  constructor
  · rintro ⟨x, hx, e⟩; rw [eq_of_beq e]; exact hx
  · intro h; exact ⟨v, h, by simp -implicitDefEqProofs⟩

theorem ContI_ok (l : List Nat) (v : Nat) (hl : short l) : APure TC 43 [.slice (l.map encI), encI v] (.bool (l.contains v)) := by
  refine afn_enter Try.func43 rfl rfl rfl (by decide) (Nat.le_of_ble_eq_true rfl) (by kernel_rfl) fun L K hL hR hN hP => ?_
  simp -implicitDefEqProofs
  refine CallF.pure (IndexI_ok l v hl) (by decide) ?_
  simp -implicitDefEqProofs
  refine hR _ (.pure rfl ?_)
  rw [← any_contains, ← ix_ge]
  exact .refl _

def encC (r : Rc) : V := .agg [.int .i64 r.a, .int .i64 r.b]
attribute [simp] encC

theorem rc_iff (r q : Rc) : r = q ↔ r.a = q.a ∧ r.b = q.b := by cases r; cases q; simp -implicitDefEqProofs

theorem IndexC_ok (l : List Rc) (v : Rc) (hl : short l) : APure TC 56 [.slice (l.map encC), encC v] (.int .i64 (ix l (fun x => decide (v = x)))) := by
  refine afn_enter Try.func56 rfl rfl rfl (by decide) (Nat.le_of_ble_eq_true rfl) (by kernel_rfl) fun L K hL hR hN hP => ?_
  simp -implicitDefEqProofs
  refine loopJ (α := Nat) (fun k => k ≤ l.length ∧ ∀ i (hi : i < l.length), i < k → decide (v = l[i]) = false)
    (fun k => [(0, .slice (l.map encC)), (3, .ptr (L, 0) 0), (7, .int .i64 l.length), (8, .int .i64 k)]) (fun _ => [((L, 0), .cells 54 [.int .i64 v.a, .int .i64 v.b])]) (fun k => l.length - k) 0 (by simp -implicitDefEqProofs) (turn_weak (by simp -implicitDefEqProofs) (by simp -implicitDefEqProofs) (by simp -implicitDefEqProofs)) ?_
  rintro k L1 K1 ⟨hk, hpre⟩ hL1 _ hnext hex hrt - -
  simp -implicitDefEqProofs
  refine CondC.mk (fun hb => ?_) (fun hb => ?_)
  · have hlt : k < l.length := by simpa using hb
    have hx : l[k]? = some l[k] := List.getElem?_eq_getElem hlt
    have hiff := rc_iff v l[k]
    rcases h1 : (v.a == l[k].a) <;> rcases h2 : (v.b == l[k].b) <;> simp -implicitDefEqProofs [hx, h1, h2, wr1 k (by omega)]
    all_goals first
      | (refine hnext _ (k + 1) ⟨by omega, fun i hi hik => ?_⟩ (by omega) (turn_weak (by simp -implicitDefEqProofs) (by simp -implicitDefEqProofs) (by simp -implicitDefEqProofs))
         by_cases e : i = k
         · subst e; simp -implicitDefEqProofs at h1 h2; simp -implicitDefEqProofs [hiff, h1, h2]
         · exact hpre i hi (by omega))
      | (refine hrt _ ?_
         refine hR _ (.pure rfl ?_)
         rw [ix_some hlt (by simp -implicitDefEqProofs at h1 h2; simp -implicitDefEqProofs [hiff, h1, h2]) hpre]
         exact .refl _)
  · refine hex _ _ ?_
    simp -implicitDefEqProofs
    refine hR _ (.pure rfl ?_)
    have hkn : ¬ k < l.length := by simpa using hb
    rw [ix_none fun i hi => hpre i hi (by omega)]
    exact .refl _

theorem any_decide {α : Type} [DecidableEq α] (l : List α) (v : α) : (l.any fun x => decide (v = x)) = l.contains v := by
  rw [Bool.eq_iff_iff, List.any_eq_true, List.contains_iff_mem]
  constructor
  · rintro ⟨x, hx, e⟩; simp -implicitDefEqProofs at e; rw [e]; exact hx
  · intro h; exact ⟨v, h, by simp -implicitDefEqProofs⟩

theorem ContC_ok (l : List Rc) (v : Rc) (hl : short l) : APure TC 37 [.slice (l.map encC), encC v] (.bool (l.contains v)) := by
  refine afn_enter Try.func37 rfl rfl rfl (by decide) (Nat.le_of_ble_eq_true rfl) (by kernel_rfl) fun L K hL hR hN hP => ?_
  simp -implicitDefEqProofs
  refine CallF.pure (IndexC_ok l v hl) (by decide) ?_
  simp -implicitDefEqProofs
  refine hR _ (.pure rfl ?_)
  rw [← any_decide, ← ix_ge]
  exact .refl _

theorem EqC_ok (a b : List Rc) (ha : short a) (hb : short b) : APure TC 34 [.slice (a.map encC), .slice (b.map encC)] (.bool (decide (a = b))) := by
  refine afn_enter Try.func34 rfl rfl rfl (by decide) (Nat.le_of_ble_eq_true rfl) (by kernel_rfl) fun L K hL hR hN hP => ?_
  by_cases hl : a.length = b.length <;> simp -implicitDefEqProofs [int_bne, hl]
  · refine loopJ (α := Nat) (fun k => k ≤ a.length ∧ ∀ i (h1 : i < a.length) (h2 : i < b.length), i < k → a[i] = b[i])
      (fun k => [(0, .slice (a.map encC)), (1, .slice (b.map encC)), (12, .int .i64 a.length), (13, .int .i64 k)]) (fun _ => []) (fun k => a.length - k) 0 (by simp -implicitDefEqProofs)
      (turn_weak (by simp -implicitDefEqProofs [hl]) (by simp -implicitDefEqProofs) (by simp -implicitDefEqProofs)) ?_
    rintro k L1 K1 ⟨hk, hpre⟩ hL1 _ hnext hex hrt - -
    simp -implicitDefEqProofs
    refine CondC.mk (fun h => ?_) (fun h => ?_)
    · have hlt : k < a.length := by simpa using h
      have hlt2 : k < b.length := by omega
      have hiff := rc_iff a[k] b[k]
      rcases h1 : (a[k].a == b[k].a) <;> rcases h2 : (a[k].b == b[k].b) <;> simp -implicitDefEqProofs [List.getElem?_eq_getElem hlt, List.getElem?_eq_getElem hlt2, h1, h2, wr1 k (by omega)]
      all_goals first
        | (refine hnext _ (k + 1) ⟨by omega, ?_⟩ (by omega) (turn_weak (by simp -implicitDefEqProofs) (by simp -implicitDefEqProofs) (by simp -implicitDefEqProofs))
           intro i q1 q2 hik
           by_cases e : i = k
           · subst e; exact hiff.2 ⟨by simpa using h1, by simpa using h2⟩
           · exact hpre i q1 q2 (by omega))
        | (refine hrt _ ?_; refine hR _ (.pure rfl ?_)
           have : ¬ a = b := fun e => by
             have e2 : a[k] = b[k] := by simp -implicitDefEqProofs [e]
             have := hiff.1 e2
             simp -implicitDefEqProofs [this.1, this.2] at h1 h2
           simp -implicitDefEqProofs [this])
    · refine hex _ _ ?_
      simp -implicitDefEqProofs
      refine hR _ (.pure rfl ?_)
      have hkn : ¬ k < a.length := by simpa using h
      have : a = b := take_ext hl fun i q1 q2 => hpre i q1 q2 (by omega)
      simp -implicitDefEqProofs [this]
  · refine hR _ (.pure rfl ?_)
    have : ¬ a = b := fun e => hl (by rw [e])
    simp -implicitDefEqProofs [this]
end Go.Awp.R1

/- What happens ahead of what, by the statement's loops. -/
namespace Go.Awp.R1
open Go Go.Awp Go.Proofs Go.Awp.B

/-- Rows that are done, one that is being made, nil ones. -/
def rowsV (out : List (List Nat)) (v : V) (m : Nat) : List V := out.map encR ++ v :: List.replicate m .snil
theorem rowsV_len (out : List (List Nat)) (v : V) (m : Nat) : (rowsV out v m).length = out.length + 1 + m := by simp -implicitDefEqProofs [rowsV]; omega
theorem rowsV_at (out : List (List Nat)) (v : V) (m : Nat) : (rowsV out v m)[out.length]? = some v := by simp -implicitDefEqProofs [rowsV]
theorem rowsV_lt {out : List (List Nat)} {v : V} {m k : Nat} (h : k < out.length) : (rowsV out v m)[k]? = some (encR (out.getD k [])) := by
  unfold rowsV
  rw [List.getElem?_append_left (by simpa using h), List.getElem?_map, List.getElem?_eq_getElem h, List.getD_eq_getElem?_getD, List.getElem?_eq_getElem h]; rfl
theorem rowsV_set (out : List (List Nat)) (v w : V) (m : Nat) : (rowsV out v m).set out.length w = rowsV out w m := by
  unfold rowsV
  rw [List.set_append, if_neg (by simp -implicitDefEqProofs)]; simp -implicitDefEqProofs
theorem rowsV_done (out : List (List Nat)) (c : List Nat) (m : Nat) : rowsV out (encR c) (m + 1) = rowsV (out ++ [c]) .snil m := by
  unfold rowsV; simp -implicitDefEqProofs [List.replicate_succ]

theorem fold_range'_succ {α : Type} (f : α → Nat → α) (a : α) {i k j : Nat} (h : i + 1 ≤ k) : (List.range' (i + 1) (k + 1 - (i + 1))).foldl f a = f ((List.range' (i + 1) (k - (i + 1))).foldl f a) k := by
  rw [show k + 1 - (i + 1) = (k - (i + 1)) + 1 by omega, List.range'_concat, List.foldl_append]
  simp only [List.foldl_cons, List.foldl_nil]
  rw [show i + 1 + 1 * (k - (i + 1)) = k by omega]
theorem filter_range_succ (p : Nat → Bool) (i : Nat) : (List.range (i + 1)).filter p = (List.range i).filter p ++ if p i = true then [i] else [] := by
  rw [List.range_succ, List.filter_append]
  cases hp : p i <;> simp -implicitDefEqProofs [hp]

set_option maxRecDepth 100000 in
theorem Ahead_ok (l : List Ev) (hl : Few l) : APure TC 38 [.slice (l.map encE)] (.slice ((aheadP l).map encR)) := by
  have hl0 := hl.len
  refine afn_enter Try.func38 rfl rfl rfl (by decide) (Nat.le_of_ble_eq_true rfl) (by kernel_rfl) fun L K hL hR hN hP => ?_
  have c0 : (l.length : Int) ≤ 9223372036854775807 := by omega
  have c1 : l.length * 24 ≤ 140737488355328 := by omega
  simp -implicitDefEqProofs [c0, c1]
  refine loopJ (α := Nat) (fun j => j ≤ l.length)
    (fun j => [(0, .slice (l.map encE)), (3, .vec (L, 0) 1), (12, .int .i64 l.length), (13, .int .i64 j)])
    (fun j => [((L, 0), .vec 28 1 ((aheadN l j).map encR ++ List.replicate (l.length - j) .snil) 1 true)]) (fun j => l.length - j) 0 (by simp -implicitDefEqProofs) (turn_weak (by simp -implicitDefEqProofs) (by simp -implicitDefEqProofs [aheadN]) (by simp -implicitDefEqProofs)) ?_
  rintro j L1 K1 hj hL1 - hnext hex hrt - -
  simp -implicitDefEqProofs at hL1
  have n1 : L ≠ L1 := by omega
  simp -implicitDefEqProofs
  refine CondC.mk (fun hb => ?_) (fun hb => ?_)
  · have hlt : j < l.length := by simpa using hb
    obtain ⟨m, hm⟩ : ∃ m, l.length - j = m + 1 := ⟨l.length - j - 1, by omega⟩
    have hsucc := aheadN_succ l j
    have hol := aheadN_length l j
    have hrows := aheadN_rows l j
    generalize aheadN l j = out at *
    have hst : out.map encR ++ List.replicate (l.length - j) V.snil = rowsV out .snil m := by rw [hm]; rfl
    rw [hst]
    simp -implicitDefEqProofs
    refine wait_turn (turn_thawV (id := (L, 0)) (t := 28) (s := 1) (i := j) (ver := 1) (el := 3) (sz := 1) (es := rowsV out .snil m) (wr := true) (by simp -implicitDefEqProofs) (by rw [← hol]; exact rowsV_at out .snil m) (by decide)) ?_
    have hset : ∀ v w, (rowsV out v m).set j w = rowsV out w m := fun v w => by rw [← hol]; exact rowsV_set out v w m
    have hget : ∀ v, (rowsV out v m)[j]? = some v := fun v => by rw [← hol]; exact rowsV_at out v m
    have hlenr : ∀ v, (rowsV out v m).length = l.length := fun v => by rw [rowsV_len]; omega
    have hget' : ∀ v (h : j < (rowsV out v m).length), (rowsV out v m)[j] = v := fun v h => (List.getElem?_eq_some_iff.1 (hget v)).2
    simp -implicitDefEqProofs [hset]
    refine loopJ (α := Nat × List Nat) (fun x => x.1 ≤ j ∧ x.2 = (List.range x.1).filter (isAhead l out j) ∧ x.2.length ≤ x.1)
      (fun x => [(0, .slice (l.map encE)), (3, .vec (L, 0) 1), (4, .int .i64 j), (12, .int .i64 l.length), (13, .int .i64 j), (16, .int .i64 j), (17, .int .i64 x.1)])
      (fun x => [((L1, 0), .vec 3 1 (x.2.map encI) x.2.length true), ((L, 0), .vec 28 1 (rowsV out (.vec (L1, 0) x.2.length) m) 1 true)]) (fun x => j - x.1) (0, []) (by simp -implicitDefEqProofs) (turn_weak (by simp -implicitDefEqProofs) (by simp -implicitDefEqProofs) (by simp -implicitDefEqProofs)) ?_
    rintro ⟨i, row⟩ L2 K2 ⟨hi, hrow, hrl⟩ hL2 - hnext2 hex2 hrt2 - -
    simp -implicitDefEqProofs at hi hrow hrl hL2
    have n2 : L ≠ L2 := by omega
    have n3 : L1 ≠ L2 := by omega
    simp -implicitDefEqProofs
    refine CondC.mk (fun hb => ?_) (fun hb => ?_)
    · have hij : i < j := by simpa using hb
      have hil : i < l.length := by omega
      have hfs := filter_range_succ (isAhead l out j) i
      rw [← hrow] at hfs
      simp -implicitDefEqProofs [at_get hil, at_get hlt]
      refine CallF.pure (Depend_ok (at' l i) (at' l j) (hl.at hil) (hl.at hlt)) (by decide) ?_
      simp -implicitDefEqProofs [wr1 i (by omega)]
      refine loopJ (α := Nat × Bool) (fun x => i + 1 ≤ x.1 ∧ x.1 ≤ j ∧ x.2 = (List.range' (i + 1) (x.1 - (i + 1))).foldl (fun ok k => if (depend (at' l k) (at' l j) && (out.getD k []).contains i) = true then true else ok) (depend (at' l i) (at' l j)))
        (fun x => [(0, .slice (l.map encE)), (3, .vec (L, 0) 1), (4, .int .i64 j), (5, .int .i64 i), (6, .bool x.2), (7, .int .i64 x.1), (12, .int .i64 l.length), (13, .int .i64 j), (16, .int .i64 j), (17, .int .i64 i)])
        (fun x => [((L1, 0), .vec 3 1 (row.map encI) row.length true), ((L, 0), .vec 28 1 (rowsV out (.vec (L1, 0) row.length) m) 1 true)]) (fun x => j - x.1) (i + 1, depend (at' l i) (at' l j)) ⟨Nat.le_refl _, hij, by simp -implicitDefEqProofs⟩ (turn_weak (by simp -implicitDefEqProofs) (by simp -implicitDefEqProofs) (by simp -implicitDefEqProofs)) ?_
      rintro ⟨k, ok⟩ L3 K3 ⟨hik, hkj, hok⟩ hL3 - hnext3 hex3 hrt3 - -
      simp -implicitDefEqProofs at hik hkj hL3
      have hok : ok = (List.range' (i + 1) (k - (i + 1))).foldl (fun ok k => if (depend (at' l k) (at' l j) && (out.getD k []).contains i) = true then true else ok) (depend (at' l i) (at' l j)) := hok
      have n4 : L ≠ L3 := by omega
      have n5 : L1 ≠ L3 := by omega
      simp -implicitDefEqProofs
      refine CondC.mk (fun hb => ?_) (fun hb => ?_)
      · have hkj' : k < j := by simpa using hb
        have hkl : k < l.length := by omega
        have hko : k < out.length := by omega
        have hff := fold_range'_succ (j := j) (fun ok k => if (depend (at' l k) (at' l j) && (out.getD k []).contains i) = true then true else ok) (depend (at' l i) (at' l j)) hik
        rw [← hok] at hff
        have hrk := rowsV_lt (v := .vec (L1, 0) row.length) (m := m) hko
        have hdk : short (out.getD k []) := by
          have := (hrows (out.getD k []) (by rw [List.getD_eq_getElem?_getD, List.getElem?_eq_getElem hko]; exact List.getElem_mem _)).1
          show _ ≤ _; omega
        generalize out.getD k [] = d at hff hrk hdk
        have hrk' := (List.getElem?_eq_some_iff.1 hrk).2
        simp -implicitDefEqProofs [at_get hkl, at_get hlt]
        refine CallF.pure (Depend_ok (at' l k) (at' l j) (hl.at hkl) (hl.at hlt)) (by decide) ?_
        rcases hd : depend (at' l k) (at' l j) <;> simp -implicitDefEqProofs [wr1 k (by omega), n1, n1.symm, hlenr, hkl, hrk']
        · exact hnext3 _ (k + 1, ok) ⟨by simp -implicitDefEqProofs; omega, by simp -implicitDefEqProofs; omega, by rw [hff]; simp -implicitDefEqProofs [hd]⟩ (by simp -implicitDefEqProofs; omega) (turn_weak (by simp -implicitDefEqProofs) (by simp -implicitDefEqProofs) (by simp -implicitDefEqProofs))
        · refine CallF.pure (ContI_ok d i hdk) (by decide) ?_
          rcases hcc : d.contains i <;> simp -implicitDefEqProofs [wr1 k (by omega)]
          · exact hnext3 _ (k + 1, ok) ⟨by simp -implicitDefEqProofs; omega, by simp -implicitDefEqProofs; omega, by rw [hff, hd, hcc]; simp -implicitDefEqProofs⟩ (by simp -implicitDefEqProofs; omega) (turn_weak (by simp -implicitDefEqProofs) (by simp -implicitDefEqProofs) (by simp -implicitDefEqProofs))
          · exact hnext3 _ (k + 1, true) ⟨by simp -implicitDefEqProofs; omega, by simp -implicitDefEqProofs; omega, by rw [hff, hd, hcc]; simp -implicitDefEqProofs⟩ (by simp -implicitDefEqProofs; omega) (turn_weak (by simp -implicitDefEqProofs) (by simp -implicitDefEqProofs) (by simp -implicitDefEqProofs))
      · refine hex3 _ _ ?_
        have hkj' : ¬ k < j := by simpa using hb
        have hkk : k = j := by omega
        subst hkk
        have hia : isAhead l out k i = ok := hok.symm
        have d1 : row.length ≤ 9223372036854775806 := by omega
        have d2 : (row.length + 1) * 8 ≤ 140737488355328 := by omega
        rcases ok <;> simp -implicitDefEqProofs [wr1 i (by omega), n1, n1.symm, hlenr, hlt, hget', hset, d1, d2]
        · exact hnext2 _ (i + 1, row) ⟨by simp -implicitDefEqProofs; omega, by rw [hfs, hia]; simp -implicitDefEqProofs, by simp -implicitDefEqProofs; omega⟩ (by simp -implicitDefEqProofs; omega) (turn_weak (by simp -implicitDefEqProofs) (by simp -implicitDefEqProofs) (by simp -implicitDefEqProofs))
        · exact hnext2 _ (i + 1, row ++ [i]) ⟨by simp -implicitDefEqProofs; omega, by rw [hfs, hia]; simp -implicitDefEqProofs, by simp -implicitDefEqProofs; omega⟩ (by simp -implicitDefEqProofs; omega) (turn_weak (by simp -implicitDefEqProofs) (by simp -implicitDefEqProofs) (by simp -implicitDefEqProofs))
    · refine hex2 _ _ ?_
      have hij : ¬ i < j := by simpa using hb
      have hii : i = j := by omega
      subst hii
      simp -implicitDefEqProofs [wr1 i (by omega)]
      refine hnext _ (i + 1) (by omega) (by omega) (turn_frz [((L1, 0), .vec 3 1 (row.map encI) row.length true)] [((L, 0), .vec 28 1 (rowsV out (.vec (L1, 0) row.length) m) 1 true)] (by simp -implicitDefEqProofs) (by simp -implicitDefEqProofs) (by simp -implicitDefEqProofs) (by simp -implicitDefEqProofs) (by simp -implicitDefEqProofs [n1, n1.symm]) ?_)
      have e : aheadRow l out i = row := hrow.symm
      rw [hsucc, e, show l.length - (i + 1) = m by omega]
      refine .cons (.vec ?_) .nil
      unfold rowsV
      simp only [List.map_append, List.map_cons, List.map_nil, List.append_assoc, List.cons_append, List.nil_append]
      exact frzL_append (frzL_refl _) (.cons (.vec (t := 3) (s := 1) (es := row.map encI) (wr := true) (by simp -implicitDefEqProofs) (frzL_refl _)) (frzL_refl _))
  · refine hex _ _ ?_
    have hjn : ¬ j < l.length := by simpa using hb
    have hjl : j = l.length := by omega
    subst hjl
    simp -implicitDefEqProofs
    exact hR _ (.pure rfl (.vec (t := 28) (s := 1) (es := (aheadP l).map encR) (wr := true) (by simp -implicitDefEqProofs [aheadP]) (frzL_refl _)))
end Go.Awp.R1

/- Races. -/
namespace Go.Awp.R1
open Go Go.Awp Go.Proofs Go.Awp.B

theorem all_range'_succ (p : Nat → Bool) {i k : Nat} (h : i + 1 ≤ k) : (List.range' (i + 1) (k + 1 - (i + 1))).all p = ((List.range' (i + 1) (k - (i + 1))).all p && p k) := by
  rw [show k + 1 - (i + 1) = (k - (i + 1)) + 1 by omega, List.range'_concat, List.all_append]
  simp only [List.all_cons, List.all_nil, Bool.and_true]
  rw [show i + 1 + 1 * (k - (i + 1)) = k by omega]
theorem all_range'_false {p : Nat → Bool} {i k j : Nat} (h : i + 1 ≤ k) (hj : k < j) (hp : p k = false) : (List.range' (i + 1) (j - (i + 1))).all p = false := by
  rw [List.all_eq_false]
  refine ⟨k, ?_, by simp -implicitDefEqProofs [hp]⟩
  rw [List.mem_range'_1]; omega
theorem flat_range_succ {α : Type} (f : Nat → List α) (j : Nat) : (List.range (j + 1)).flatMap f = (List.range j).flatMap f ++ f j := by
  rw [List.range_succ, List.flatMap_append]; simp -implicitDefEqProofs

def rc (j i : Nat) : Rc := ⟨i, j⟩

set_option maxRecDepth 100000 in
theorem RaceAllP_ok (l : List Ev) (hl : Few l) (ht : Thr l) : APure TC 35 [.slice (l.map encE)] (.slice ((racesP l).map encC)) := by
  have hl0 := hl.len
  refine afn_enter Try.func35 rfl rfl rfl (by decide) (Nat.le_of_ble_eq_true rfl) (by kernel_rfl) fun L K hL hR hN hP => ?_
  simp -implicitDefEqProofs
  refine CallF.pure (NewO_ok l hl ht) (by decide) ?_
  simp -implicitDefEqProofs [encO]
  refine wait_turn (turn_thaw (t := 4) (el := 54) (sz := 2) (by simp -implicitDefEqProofs) (by decide)) ?_
  refine loopJ (α := Nat × List Rc) (fun x => x.1 ≤ l.length ∧ x.2 = (List.range x.1).flatMap (raceRow l) ∧ x.2.length ≤ 1000 * x.1)
    (fun x => [(0, .slice (l.map encE)), (3, .ptr (L, 0) 0), (4, .vec (L, 1) x.2.length), (11, .int .i64 l.length), (12, .int .i64 x.1)])
    (fun x => [((L, 1), .vec 54 2 (x.2.map encC) x.2.length true), ((L, 0), .cells 79 (encO l).cells)]) (fun x => l.length - x.1) (0, []) (by simp -implicitDefEqProofs) (turn_weak (by simp -implicitDefEqProofs) (by simp -implicitDefEqProofs [encO]) (by simp -implicitDefEqProofs)) ?_
  rintro ⟨j, out⟩ L1 K1 ⟨hj, hout, hol⟩ hL1 - hnext hex hrt - -
  simp -implicitDefEqProofs at hj hout hol hL1
  simp -implicitDefEqProofs
  refine CondC.mk (fun hb => ?_) (fun hb => ?_)
  · have hlt : j < l.length := by simpa using hb
    have hsucc := flat_range_succ (raceRow l) j
    rw [← hout] at hsucc
    simp -implicitDefEqProofs
    refine scopeJ fun K2 kn ke kr kp => ?_
    simp -implicitDefEqProofs
    refine loopJ (α := Nat × List Rc) (fun x => x.1 ≤ j ∧ x.2 = out ++ ((List.range x.1).filter (raceOk l j)).map (rc j) ∧ x.2.length ≤ 1000 * j + x.1)
      (fun x => [(0, .slice (l.map encE)), (3, .ptr (L, 0) 0), (4, .vec (L, 1) x.2.length), (5, .int .i64 j), (11, .int .i64 l.length), (12, .int .i64 j), (15, .int .i64 j), (16, .int .i64 x.1)])
      (fun x => [((L, 1), .vec 54 2 (x.2.map encC) x.2.length true), ((L, 0), .cells 79 (encO l).cells)]) (fun x => j - x.1) (0, out) (by simp -implicitDefEqProofs; omega) (turn_weak (by simp -implicitDefEqProofs) (by simp -implicitDefEqProofs) (by simp -implicitDefEqProofs)) ?_
    rintro ⟨i, o⟩ L3 K3 ⟨hi, ho, hlen⟩ hL3 - hnext3 hex3 hrt3 - -
    simp -implicitDefEqProofs at hi ho hlen hL3
    simp -implicitDefEqProofs
    refine CondC.mk (fun hb => ?_) (fun hb => ?_)
    · have hij : i < j := by simpa using hb
      have hil : i < l.length := by omega
      have hfs := filter_range_succ (raceOk l j) i
      have no : raceOk l j i = false → out ++ ((List.range (i + 1)).filter (raceOk l j)).map (rc j) = o := fun e => by rw [hfs, e]; simp -implicitDefEqProofs [ho]
      have yes : raceOk l j i = true → out ++ ((List.range (i + 1)).filter (raceOk l j)).map (rc j) = o ++ [rc j i] := fun e => by rw [hfs, e]; simp -implicitDefEqProofs [ho]
      rcases heq : ((at' l i).t == (at' l j).t) <;> simp -implicitDefEqProofs [at_get hil, at_get hlt, heq, wr1 i (by omega)]
      · refine CallF.pure (Depend_ok (at' l i) (at' l j) (hl.at hil) (hl.at hlt)) (by decide) ?_
        rcases hd : depend (at' l i) (at' l j) <;> simp -implicitDefEqProofs [wr1 i (by omega)]
        · exact hnext3 _ (i + 1, o) ⟨by simp -implicitDefEqProofs; omega, (no (by simp -implicitDefEqProofs [raceOk, heq, hd])).symm, by simp -implicitDefEqProofs; omega⟩ (by simp -implicitDefEqProofs; omega) (turn_weak (by simp -implicitDefEqProofs) (by simp -implicitDefEqProofs) (by simp -implicitDefEqProofs))
        · refine loopJ (α := Nat) (fun k => i + 1 ≤ k ∧ k ≤ j ∧ ((List.range' (i + 1) (k - (i + 1))).all fun k => !(beforeP l i k && beforeP l k j)) = true)
            (fun k => [(0, .slice (l.map encE)), (3, .ptr (L, 0) 0), (4, .vec (L, 1) o.length), (5, .int .i64 j), (6, .int .i64 i), (7, .int .i64 k), (11, .int .i64 l.length), (12, .int .i64 j), (15, .int .i64 j), (16, .int .i64 i)])
            (fun k => [((L, 1), .vec 54 2 (o.map encC) o.length true), ((L, 0), .cells 79 (encO l).cells)]) (fun k => j - k) (i + 1) ⟨Nat.le_refl _, hij, by simp -implicitDefEqProofs⟩ (turn_weak (by simp -implicitDefEqProofs) (by simp -implicitDefEqProofs) (by simp -implicitDefEqProofs)) ?_
          rintro k L4 K4 ⟨hik, hkj, hall⟩ hL4 - hnext4 hex4 hrt4 - -
          simp -implicitDefEqProofs
          refine CondC.mk (fun hb => ?_) (fun hb => ?_)
          · have hkj' : k < j := by simpa using hb
            have hall2 := all_range'_succ (fun k => !(beforeP l i k && beforeP l k j)) hik
            simp -implicitDefEqProofs [encO]
            refine CallF.pure (Before_ok l i k hl ht (by omega) (by omega)) (by decide) ?_
            rcases hb1 : beforeP l i k <;> simp -implicitDefEqProofs [wr1 k (by omega)]
            · exact hnext4 _ (k + 1) ⟨by omega, by omega, by rw [hall2, hall, hb1]; simp -implicitDefEqProofs⟩ (by omega) (turn_weak (by simp -implicitDefEqProofs) (by simp -implicitDefEqProofs [encO]) (by simp -implicitDefEqProofs))
            · refine CallF.pure (Before_ok l k j hl ht (by omega) (by omega)) (by decide) ?_
              rcases hb2 : beforeP l k j <;> simp -implicitDefEqProofs [wr1 k (by omega)]
              · exact hnext4 _ (k + 1) ⟨by omega, by omega, by rw [hall2, hall, hb2]; simp -implicitDefEqProofs⟩ (by omega) (turn_weak (by simp -implicitDefEqProofs) (by simp -implicitDefEqProofs [encO]) (by simp -implicitDefEqProofs))
              · refine hex4 _ _ ?_
                simp -implicitDefEqProofs [wr1 i (by omega)]
                refine hnext3 _ (i + 1, o) ⟨by simp -implicitDefEqProofs; omega, (no ?_).symm, by simp -implicitDefEqProofs; omega⟩ (by simp -implicitDefEqProofs; omega) (turn_weak (by simp -implicitDefEqProofs) (by simp -implicitDefEqProofs [encO]) (by simp -implicitDefEqProofs))
                unfold raceOk
                rw [all_range'_false hik hkj' (by rw [hb1, hb2]; rfl)]; simp -implicitDefEqProofs
          · refine hex4 _ _ ?_
            have hkj' : ¬ k < j := by simpa using hb
            have hkk : k = j := by omega
            subst hkk
            have d1 : o.length ≤ 9223372036854775806 := by omega
            have d2 : (o.length + 1) * 16 ≤ 140737488355328 := by omega
            simp -implicitDefEqProofs [wr1 i (by omega), d1, d2]
            refine hnext3 _ (i + 1, o ++ [rc k i]) ⟨by simp -implicitDefEqProofs; omega, (yes ?_).symm, by simp -implicitDefEqProofs; omega⟩ (by simp -implicitDefEqProofs; omega) (turn_weak (by simp -implicitDefEqProofs) (by simp -implicitDefEqProofs [encO, rc]) (by simp -implicitDefEqProofs))
            unfold raceOk; rw [heq, hd, hall]; rfl
      · exact hnext3 _ (i + 1, o) ⟨by simp -implicitDefEqProofs; omega, (no (by simp -implicitDefEqProofs [raceOk, heq])).symm, by simp -implicitDefEqProofs; omega⟩ (by simp -implicitDefEqProofs; omega) (turn_weak (by simp -implicitDefEqProofs) (by simp -implicitDefEqProofs) (by simp -implicitDefEqProofs))
    · refine hex3 _ _ ?_
      have hij : ¬ i < j := by simpa using hb
      have hii : i = j := by omega
      subst hii
      simp -implicitDefEqProofs
      refine kn _ ?_
      simp -implicitDefEqProofs [wr1 i (by omega)]
      exact hnext _ (i + 1, o) ⟨by simp -implicitDefEqProofs; omega, by rw [hsucc, ho]; rfl, by simp -implicitDefEqProofs; omega⟩ (by simp -implicitDefEqProofs; omega) (turn_weak (by simp -implicitDefEqProofs) (by simp -implicitDefEqProofs) (by simp -implicitDefEqProofs))
  · refine hex _ _ ?_
    have hjn : ¬ j < l.length := by simpa using hb
    have hjl : j = l.length := by omega
    subst hjl
    simp -implicitDefEqProofs
    refine hR _ (.pure rfl ?_)
    rw [show racesP l = out from hout.symm]
    exact .vec (t := 54) (s := 2) (es := out.map encC) (wr := true) (by simp -implicitDefEqProofs) (frzL_refl _)
end Go.Awp.R1

/- Races by definition; a race turned. -/
namespace Go.Awp.R1
open Go Go.Awp Go.Proofs Go.Awp.B

set_option maxRecDepth 100000 in
theorem RaceAllL_ok (l : List Ev) (hl : Few l) : APure TC 36 [.slice (l.map encE)] (.slice ((racesL l).map encC)) := by
  have hl0 := hl.len
  refine afn_enter Try.func36 rfl rfl rfl (by decide) (Nat.le_of_ble_eq_true rfl) (by kernel_rfl) fun L K hL hR hN hP => ?_
  simp -implicitDefEqProofs
  refine CallF.pure (Ahead_ok l hl) (by decide) ?_
  have hal := aheadN_length l l.length
  have har := aheadN_rows l l.length
  simp -implicitDefEqProofs
  refine wait_turn (turn_thaw (t := 4) (el := 54) (sz := 2) (by simp -implicitDefEqProofs) (by decide)) ?_
  refine loopJ (α := Nat × List Rc) (fun x => x.1 ≤ l.length ∧ x.2 = (List.range x.1).flatMap (raceRowL l) ∧ x.2.length ≤ 1000 * x.1)
    (fun x => [(0, .slice (l.map encE)), (3, .slice ((aheadP l).map encR)), (4, .vec (L, 0) x.2.length), (12, .int .i64 l.length), (13, .int .i64 x.1)])
    (fun x => [((L, 0), .vec 54 2 (x.2.map encC) x.2.length true)]) (fun x => l.length - x.1) (0, []) (by simp -implicitDefEqProofs) (turn_weak (by simp -implicitDefEqProofs) (by simp -implicitDefEqProofs) (by simp -implicitDefEqProofs)) ?_
  rintro ⟨j, out⟩ L1 K1 ⟨hj, hout, hol⟩ hL1 - hnext hex hrt - -
  simp -implicitDefEqProofs at hj hout hol hL1
  simp -implicitDefEqProofs
  refine CondC.mk (fun hb => ?_) (fun hb => ?_)
  · have hlt : j < l.length := by simpa using hb
    have hsucc := flat_range_succ (raceRowL l) j
    rw [← hout] at hsucc
    have row : ∀ k, k < l.length → (aheadP l)[k]? = some ((aheadP l).getD k []) ∧ short ((aheadP l).getD k []) := by
      intro k hk
      have hk' : k < (aheadP l).length := by show k < (aheadN l l.length).length; omega
      have e : (aheadP l)[k]? = some ((aheadP l).getD k []) := by rw [List.getD_eq_getElem?_getD, List.getElem?_eq_getElem hk']; rfl
      refine ⟨e, ?_⟩
      have := (har _ (List.mem_of_getElem? e)).1
      show _ ≤ _; omega
    obtain ⟨dj, ej, r3, r4⟩ : ∃ dj, (aheadP l).getD j [] = dj ∧ (aheadP l)[j]? = some dj ∧ short dj := ⟨_, rfl, (row j hlt).1, (row j hlt).2⟩
    simp -implicitDefEqProofs
    refine loopJ (α := Nat × List Rc) (fun x => x.1 ≤ j ∧ x.2 = out ++ ((List.range x.1).filter (raceOkL l j)).map (rc j) ∧ x.2.length ≤ 1000 * j + x.1)
      (fun x => [(0, .slice (l.map encE)), (3, .slice ((aheadP l).map encR)), (4, .vec (L, 0) x.2.length), (5, .int .i64 j), (12, .int .i64 l.length), (13, .int .i64 j), (16, .int .i64 j), (17, .int .i64 x.1)])
      (fun x => [((L, 0), .vec 54 2 (x.2.map encC) x.2.length true)]) (fun x => j - x.1) (0, out) (by simp -implicitDefEqProofs; omega) (turn_weak (by simp -implicitDefEqProofs) (by simp -implicitDefEqProofs) (by simp -implicitDefEqProofs)) ?_
    rintro ⟨i, o⟩ L3 K3 ⟨hi, ho, hlen⟩ hL3 - hnext3 hex3 hrt3 - -
    simp -implicitDefEqProofs at hi ho hlen hL3
    simp -implicitDefEqProofs
    refine CondC.mk (fun hb => ?_) (fun hb => ?_)
    · have hij : i < j := by simpa using hb
      have hil : i < l.length := by omega
      have hfs := filter_range_succ (raceOkL l j) i
      have no : raceOkL l j i = false → out ++ ((List.range (i + 1)).filter (raceOkL l j)).map (rc j) = o := fun e => by rw [hfs, e]; simp -implicitDefEqProofs [ho]
      have yes : raceOkL l j i = true → out ++ ((List.range (i + 1)).filter (raceOkL l j)).map (rc j) = o ++ [rc j i] := fun e => by rw [hfs, e]; simp -implicitDefEqProofs [ho]
      obtain ⟨b0, hb0⟩ : ∃ b0, b0 = ((at' l i).t != (at' l j).t && depend (at' l i) (at' l j)) := ⟨_, rfl⟩
      have hok0 : raceOkL l j i = (List.range' (i + 1) (j - (i + 1))).foldl (fun ok k => ok && !(((aheadP l).getD k []).contains i && dj.contains k)) b0 := by rw [hb0, ← ej]; rfl
      rcases hne : ((at' l i).t != (at' l j).t) <;> simp -implicitDefEqProofs [at_get hil, at_get hlt, hne, wr1 i (by omega)]
      case' true =>
        refine CallF.pure (Depend_ok (at' l i) (at' l j) (hl.at hil) (hl.at hlt)) (by decide) ?_
        simp -implicitDefEqProofs [wr1 i (by omega)]
      all_goals
        rw [hne] at hb0
        refine loopJ (α := Nat × Bool) (fun x => i + 1 ≤ x.1 ∧ x.1 ≤ j ∧ x.2 = (List.range' (i + 1) (x.1 - (i + 1))).foldl (fun ok k => ok && !(((aheadP l).getD k []).contains i && dj.contains k)) b0)
          (fun x => [(0, .slice (l.map encE)), (3, .slice ((aheadP l).map encR)), (4, .vec (L, 0) o.length), (5, .int .i64 j), (6, .int .i64 i), (7, .bool x.2), (8, .int .i64 x.1), (12, .int .i64 l.length), (13, .int .i64 j), (16, .int .i64 j), (17, .int .i64 i)])
          (fun x => [((L, 0), .vec 54 2 (o.map encC) o.length true)]) (fun x => j - x.1) (i + 1, b0) ⟨Nat.le_refl _, hij, by simp -implicitDefEqProofs⟩ (turn_weak (by simp -implicitDefEqProofs [hb0]) (by simp -implicitDefEqProofs) (by simp -implicitDefEqProofs)) ?_
        rintro ⟨k, ok⟩ L4 K4 ⟨hik, hkj, hok⟩ hL4 - hnext4 hex4 hrt4 - -
        simp -implicitDefEqProofs at hik hkj hL4
        have hok : ok = (List.range' (i + 1) (k - (i + 1))).foldl (fun ok k => ok && !(((aheadP l).getD k []).contains i && dj.contains k)) b0 := hok
        simp -implicitDefEqProofs
        refine CondC.mk (fun hb => ?_) (fun hb => ?_)
        · have hkj' : k < j := by simpa using hb
          have hkl : k < l.length := by omega
          have hff := fold_range'_succ (j := j) (fun ok k => ok && !(((aheadP l).getD k []).contains i && dj.contains k)) b0 hik
          rw [← hok] at hff
          obtain ⟨r1, r2⟩ := row k hkl
          generalize (aheadP l).getD k [] = dk at hff r1 r2
          rcases ok <;> simp -implicitDefEqProofs [wr1 k (by omega)]
          · exact hnext4 _ (k + 1, false) ⟨by simp -implicitDefEqProofs; omega, by simp -implicitDefEqProofs; omega, by rw [hff]; rfl⟩ (by simp -implicitDefEqProofs; omega) (turn_weak (by simp -implicitDefEqProofs) (by simp -implicitDefEqProofs) (by simp -implicitDefEqProofs))
          · simp -implicitDefEqProofs [r1]
            refine CallF.pure (ContI_ok dk i r2) (by decide) ?_
            rcases h1 : dk.contains i <;> simp -implicitDefEqProofs [wr1 k (by omega)]
            · exact hnext4 _ (k + 1, true) ⟨by simp -implicitDefEqProofs; omega, by simp -implicitDefEqProofs; omega, by rw [hff, h1]; rfl⟩ (by simp -implicitDefEqProofs; omega) (turn_weak (by simp -implicitDefEqProofs) (by simp -implicitDefEqProofs) (by simp -implicitDefEqProofs))
            · simp -implicitDefEqProofs [r3]
              refine CallF.pure (ContI_ok dj k r4) (by decide) ?_
              simp -implicitDefEqProofs [wr1 k (by omega)]
              exact hnext4 _ (k + 1, !dj.contains k) ⟨by simp -implicitDefEqProofs; omega, by simp -implicitDefEqProofs; omega, by rw [hff, h1]; rfl⟩ (by simp -implicitDefEqProofs; omega) (turn_weak (by simp -implicitDefEqProofs) (by simp -implicitDefEqProofs) (by simp -implicitDefEqProofs))
        · refine hex4 _ _ ?_
          have hkj' : ¬ k < j := by simpa using hb
          have hkk : k = j := by omega
          subst hkk
          have hia : raceOkL l k i = ok := by rw [hok0, hok]
          have d1 : o.length ≤ 9223372036854775806 := by omega
          have d2 : (o.length + 1) * 16 ≤ 140737488355328 := by omega
          rcases ok <;> simp -implicitDefEqProofs [wr1 i (by omega), d1, d2]
          · exact hnext3 _ (i + 1, o) ⟨by simp -implicitDefEqProofs; omega, (no hia).symm, by simp -implicitDefEqProofs; omega⟩ (by simp -implicitDefEqProofs; omega) (turn_weak (by simp -implicitDefEqProofs) (by simp -implicitDefEqProofs) (by simp -implicitDefEqProofs))
          · exact hnext3 _ (i + 1, o ++ [rc k i]) ⟨by simp -implicitDefEqProofs; omega, (yes hia).symm, by simp -implicitDefEqProofs; omega⟩ (by simp -implicitDefEqProofs; omega) (turn_weak (by simp -implicitDefEqProofs) (by simp -implicitDefEqProofs [rc]) (by simp -implicitDefEqProofs))
    · refine hex3 _ _ ?_
      have hij : ¬ i < j := by simpa using hb
      have hii : i = j := by omega
      subst hii
      simp -implicitDefEqProofs [wr1 i (by omega)]
      exact hnext _ (i + 1, o) ⟨by simp -implicitDefEqProofs; omega, by rw [hsucc, ho]; rfl, by simp -implicitDefEqProofs; omega⟩ (by simp -implicitDefEqProofs; omega) (turn_weak (by simp -implicitDefEqProofs) (by simp -implicitDefEqProofs) (by simp -implicitDefEqProofs))
  · refine hex _ _ ?_
    have hjn : ¬ j < l.length := by simpa using hb
    have hjl : j = l.length := by omega
    subst hjl
    simp -implicitDefEqProofs
    refine hR _ (.pure rfl ?_)
    rw [show racesL l = out from hout.symm]
    exact .vec (t := 54) (s := 2) (es := out.map encC) (wr := true) (by simp -implicitDefEqProofs) (frzL_refl _)
end Go.Awp.R1

/- A race turned. -/
namespace Go.Awp.R1
open Go Go.Awp Go.Proofs Go.Awp.B

theorem filter_range'_succ (p : Nat → Bool) {i k : Nat} (h : i + 1 ≤ k) : (List.range' (i + 1) (k + 1 - (i + 1))).filter p = (List.range' (i + 1) (k - (i + 1))).filter p ++ if p k = true then [k] else [] := by
  rw [show k + 1 - (i + 1) = (k - (i + 1)) + 1 by omega, List.range'_concat, List.filter_append]
  rw [show i + 1 + 1 * (k - (i + 1)) = k by omega]
  cases hp : p k <;> simp -implicitDefEqProofs [hp]

set_option maxRecDepth 100000 in
theorem Turned_ok (l : List Ev) (r : Rc) (hl : Few l) (ht : Thr l) : APure TC 42 [.slice (l.map encE), encC r] (.slice ((turnedP l r).map encE)) := by
  have hl0 := hl.len
  refine afn_enter Try.func42 rfl rfl rfl (by decide) (Nat.le_of_ble_eq_true rfl) (by kernel_rfl) fun L K hL hR hN hP => ?_
  have nil : ∀ s, turnedP l r = [] → resAll TC.P s [.tmp 4] = some [.snil] → K .ret s := fun s h1 h2 => hR _ (.pure h2 (by rw [h1]; exact .snil))
  rcases h1 : decide (r.a < 0) <;> simp -implicitDefEqProofs [h1]
  case true => exact nil _ (by unfold turnedP; rw [if_pos (.inl (by simpa using h1))]) rfl
  rcases h2 : decide (r.b ≤ r.a) <;> simp -implicitDefEqProofs [h2]
  case true => exact nil _ (by unfold turnedP; rw [if_pos (.inr (.inl (by simpa using h2)))]) rfl
  rcases h3 : decide ((l.length : Int) ≤ r.b) <;> simp -implicitDefEqProofs [h3]
  case true => exact nil _ (by unfold turnedP; rw [if_pos (.inr (.inr (by simpa using h3)))]) rfl
  simp -implicitDefEqProofs at h1 h2 h3
  obtain ⟨a, ha⟩ : ∃ a : Nat, r.a = a := ⟨r.a.toNat, by omega⟩
  obtain ⟨b, hb⟩ : ∃ b : Nat, r.b = b := ⟨r.b.toNat, by omega⟩
  have hab : a < b := by omega
  have hbl : b < l.length := by omega
  have hspec : turnedP l r = turnedN l a b := by unfold turnedP; rw [if_neg (by omega), ha, hb]; rfl
  rw [hspec] at hR
  refine CallF.pure (NewO_ok l hl ht) (by decide) ?_
  have c1 : (a : Int) ≤ 9223372036854775807 := by omega
  have c2 : a * 32 ≤ 140737488355328 := by omega
  have hov : overL (List.replicate a (V.agg [.int .i64 0, .snil])) 0 (List.take a (List.map encE l)) = (l.take a).map encE := by
    unfold overL; simp -implicitDefEqProofs [List.map_take]; omega
  have hmin : min l.length a = a := by omega
  have hz : (a = 0 ∨ l = []) → List.take a (List.map encE l) = List.replicate a (V.agg [.int .i64 0, .snil]) := fun h => by
    rcases h with h | h
    · rw [h]; rfl
    · subst h; simp -implicitDefEqProofs at hbl
  have wa : IntKind.i64.wrap ((a : Int) + 1) = (a : Int) + 1 := wr1 a (by omega)
  rcases ha0 : decide (a = 0 ∨ l = []) <;> simp -implicitDefEqProofs at ha0 <;> simp -implicitDefEqProofs [encO, ha, hb, c1, c2, ha0, hov, wa]
  all_goals
    refine loopJ (α := Nat × List Nat) (fun x => a + 1 ≤ x.1 ∧ x.1 ≤ b ∧ x.2 = (List.range' (a + 1) (x.1 - (a + 1))).filter (fun k => !beforeP l a k) ∧ x.2.length ≤ x.1)
      (fun x => [(0, .slice (l.map encE)), (3, .ptr (L, 0) 0), (5, .ptr (L, 1) 0), (6, .vec (L, 2) (x.2.length + 1)), (7, .int .i64 x.1)])
      (fun x => [((L, 2), .vec 38 2 ((l.take a ++ x.2.map (at' l)).map encE) (x.2.length + 1) true), ((L, 1), .cells 79 (encO l).cells), ((L, 0), .cells 54 [.int .i64 a, .int .i64 b])])
      (fun x => b - x.1) (a + 1, []) ⟨Nat.le_refl _, by simp -implicitDefEqProofs; omega, by simp -implicitDefEqProofs, by simp -implicitDefEqProofs⟩ (turn_weak (by simp -implicitDefEqProofs) (by first | (simp -implicitDefEqProofs [encO, hov, ha0, ha, hb]; done) | simp -implicitDefEqProofs [encO, ha, hb, hz (by simpa using ha0)]) (by simp -implicitDefEqProofs)) ?_
    rintro ⟨k, sel⟩ L1 K1 ⟨hak, hkb, hsel, hsl⟩ hL1 - hnext hex hrt - -
    simp -implicitDefEqProofs at hak hkb hsl hL1
    have hsel : sel = (List.range' (a + 1) (k - (a + 1))).filter (fun k => !beforeP l a k) := hsel
    have d0 : min a l.length + sel.length ≤ 3000 := by omega
    have d1 : min a l.length + sel.length ≤ 9223372036854775806 := by omega
    have d2 : (min a l.length + sel.length + 1) * 32 ≤ 140737488355328 := by omega
    simp -implicitDefEqProofs
    refine CondC.mk (fun hc => ?_) (fun hc => ?_)
    · have hkb' : k < b := by simpa using hc
      have hkl : k < l.length := by omega
      have hff := filter_range'_succ (fun k => !beforeP l a k) hak
      rw [← hsel] at hff
      simp -implicitDefEqProofs [encO]
      refine CallF.pure (Before_ok l a k hl ht (by omega) (by omega)) (by decide) ?_
      rcases hbf : beforeP l a k <;> simp -implicitDefEqProofs [wr1 k (by omega), at_get hkl, d1, d2]
      · exact hnext _ (k + 1, sel ++ [k]) ⟨by simp -implicitDefEqProofs; omega, by simp -implicitDefEqProofs; omega, by rw [hff, hbf]; rfl, by simp -implicitDefEqProofs; omega⟩ (by simp -implicitDefEqProofs; omega) (turn_weak (by simp -implicitDefEqProofs) (by simp -implicitDefEqProofs [encO]) (by simp -implicitDefEqProofs))
      · exact hnext _ (k + 1, sel) ⟨by simp -implicitDefEqProofs; omega, by simp -implicitDefEqProofs; omega, by rw [hff, hbf]; simp -implicitDefEqProofs, by simp -implicitDefEqProofs; omega⟩ (by simp -implicitDefEqProofs; omega) (turn_weak (by simp -implicitDefEqProofs) (by simp -implicitDefEqProofs [encO]) (by simp -implicitDefEqProofs))
    · refine hex _ _ ?_
      have hkb' : ¬ k < b := by simpa using hc
      have hkk : k = b := by omega
      subst hkk
      simp -implicitDefEqProofs [at_get hbl, d1, d2]
      refine hR _ (.pure rfl ?_)
      have e : turnedN l a k = l.take a ++ sel.map (at' l) ++ [at' l k] := by unfold turnedN; rw [← hsel]
      rw [e]
      exact .vec (t := 38) (s := 2) (es := (l.take a ++ sel.map (at' l) ++ [at' l k]).map encE) (wr := true) (by simp -implicitDefEqProofs) (frzL_refl _)

theorem SwapsF1_ok (i k : Nat) (hk : k ≤ 1000) : APure TC 41 [encI i, .rptr (encI k)] (.int .i64 ((if i = k then k + 1 else if i = k + 1 then k else i : Nat) : Int)) := by
  refine afn_enter Try.func41 rfl rfl rfl (by decide) (Nat.le_of_ble_eq_true rfl) (by kernel_rfl) fun L K hL hR hN hP => ?_
  by_cases h1 : i = k
  · simp -implicitDefEqProofs [int_beq, h1, wr1 k (by omega)]
    refine hR _ (.pure rfl ?_)
    simp -implicitDefEqProofs [h1]
  · have h2 : ((i : Int) == (k : Int) + 1) = decide (i = k + 1) := by rw [← int_beq]; simp -implicitDefEqProofs
    have h1' : ((i : Int) == (k : Int)) = false := by rw [int_beq]; simp -implicitDefEqProofs [h1]
    by_cases h3 : i = k + 1
    · have h2' : ((i : Int) == (k : Int) + 1) = true := by rw [h2]; simp -implicitDefEqProofs [h3]
      simp -implicitDefEqProofs [h1', wr1 k (by omega), h2']
      refine hR _ (.pure rfl ?_)
      simp -implicitDefEqProofs [h3]
    · have h2' : ((i : Int) == (k : Int) + 1) = false := by rw [h2]; simp -implicitDefEqProofs [h3]
      simp -implicitDefEqProofs [h1', wr1 k (by omega), h2']
      refine hR _ (.pure rfl ?_)
      simp -implicitDefEqProofs [h1, h3]
end Go.Awp.R1

/- What clocks tell. -/
namespace Go.Awp.B

section
variable (l : List Ev)

/-- i happens ahead of j. -/
def Hb (i j : Nat) : Prop := i ∈ (aheadP l).getD j []

theorem aheadN_prefix {k j : Nat} (h : k ≤ j) : ∃ t, aheadN l j = aheadN l k ++ t := by
  induction j with
  | zero => have : k = 0 := by omega
            subst this; exact ⟨[], by simp⟩
  | succ j ih =>
    by_cases e : k = j + 1
    · subst e; exact ⟨[], by simp⟩
    · obtain ⟨t, ht⟩ := ih (by omega)
      exact ⟨t ++ [aheadRow l (aheadN l j) j], by rw [aheadN_succ, ht]; simp⟩
theorem aheadN_getD {k j : Nat} (hk : k < j) (hj : j ≤ l.length) : (aheadN l j).getD k [] = (aheadP l).getD k [] := by
  obtain ⟨t, ht⟩ := aheadN_prefix l hj
  unfold aheadP
  rw [ht, List.getD_eq_getElem?_getD, List.getD_eq_getElem?_getD, List.getElem?_append_left (by rw [aheadN_length]; exact hk)]
theorem aheadP_row {j : Nat} (hj : j < l.length) : (aheadP l).getD j [] = aheadRow l (aheadN l j) j := by
  rw [← aheadN_getD l (k := j) (j := j + 1) (by omega) (by omega), aheadN_succ, List.getD_eq_getElem?_getD, List.getElem?_append_right (by rw [aheadN_length]; exact Nat.le_refl _), aheadN_length]
  simp
theorem foldl_true (p : Nat → Bool) (is : List Nat) (b : Bool) : is.foldl (fun ok k => if p k = true then true else ok) b = (b || is.any p) := by
  induction is generalizing b with
  | nil => simp
  | cons i is ih => rw [List.foldl_cons, ih, List.any_cons]; cases p i <;> cases b <;> simp
theorem foldl_and (p : Nat → Bool) (is : List Nat) (b : Bool) : is.foldl (fun ok k => ok && p k) b = (b && is.all p) := by
  induction is generalizing b with
  | nil => simp
  | cons i is ih => rw [List.foldl_cons, ih, List.all_cons, Bool.and_assoc]
theorem hb_iff {i j : Nat} (hj : j < l.length) : Hb l i j ↔ i < j ∧ (depend (at' l i) (at' l j) = true ∨ ∃ k, i < k ∧ k < j ∧ depend (at' l k) (at' l j) = true ∧ Hb l i k) := by
  unfold Hb
  rw [aheadP_row l hj]
  unfold aheadRow
  rw [List.mem_filter, List.mem_range]
  refine and_congr_right fun hij => ?_
  unfold isAhead
  rw [foldl_true fun k => depend (at' l k) (at' l j) && ((aheadN l j).getD k []).contains i, Bool.or_eq_true, List.any_eq_true]
  refine or_congr Iff.rfl ?_
  constructor
  · rintro ⟨k, hk, h⟩
    rw [List.mem_range'_1] at hk
    rw [aheadN_getD l (by omega) (by omega)] at h
    simp only [Bool.and_eq_true, List.contains_iff_mem] at h
    exact ⟨k, by omega, by omega, h.1, h.2⟩
  · rintro ⟨k, h1, h2, h3, h4⟩
    refine ⟨k, by rw [List.mem_range'_1]; omega, ?_⟩
    rw [aheadN_getD l (by omega) (by omega)]
    simp only [Bool.and_eq_true, List.contains_iff_mem]
    exact ⟨h3, h4⟩
variable {l}
theorem Hb.lt {i j : Nat} (h : Hb l i j) : i < j ∧ j < l.length := by
  have hj : j < l.length := by
    rcases Nat.lt_or_ge j l.length with h2 | h2
    · exact h2
    · unfold Hb at h
      rw [List.getD_eq_getElem?_getD, List.getElem?_eq_none (by unfold aheadP; rw [aheadN_length]; exact h2)] at h
      simp at h
  exact ⟨((hb_iff l hj).1 h).1, hj⟩
theorem Hb.trans {i j k : Nat} (h : Hb l i j) (h2 : Hb l j k) : Hb l i k := by
  induction k using Nat.strongRecOn with
  | _ k ih =>
    obtain ⟨h3, hk⟩ := h2.lt
    obtain ⟨h4, _⟩ := h.lt
    rw [hb_iff l hk]
    refine ⟨by omega, .inr ?_⟩
    rcases ((hb_iff l hk).1 h2).2 with hd | ⟨m, h5, h6, h7, h8⟩
    · exact ⟨j, h4, h3, hd, h⟩
    · exact ⟨m, by omega, h6, h7, ih m h6 h8⟩
theorem Hb.dep {i j : Nat} (hij : i < j) (hj : j < l.length) (h : depend (at' l i) (at' l j) = true) : Hb l i j := (hb_iff l hj).2 ⟨hij, .inl h⟩

/-! ### How many events of a thread -/
variable (l)
def th (i : Nat) : Nat := (at' l i).t.toNat
def cnt (t k : Nat) : Nat := (l.take k).countP fun e => e.t.toNat == t
theorem cnt_succ (t : Nat) {k : Nat} (h : k < l.length) : cnt l t (k + 1) = cnt l t k + if th l k = t then 1 else 0 := by
  unfold cnt th
  rw [List.take_add_one, List.getElem?_eq_getElem h, List.countP_append, at_eq h]
  simp
theorem cnt_mono (t : Nat) {i k : Nat} (h : i ≤ k) : cnt l t i ≤ cnt l t k := by
  unfold cnt
  exact List.Sublist.countP_le (List.take_sublist_take_left h)
theorem cnt_zero (t : Nat) : cnt l t 0 = 0 := by simp [cnt]
/-- The last one of a thread ahead of a place. -/
theorem cnt_last (t k : Nat) (hk : k ≤ l.length) : cnt l t k = 0 ∨ ∃ p, p < k ∧ th l p = t ∧ cnt l t (p + 1) = cnt l t k := by
  induction k with
  | zero => exact .inl (cnt_zero l t)
  | succ k ih =>
    have hs := cnt_succ l t (k := k) (by omega)
    by_cases e : th l k = t
    · exact .inr ⟨k, by omega, e, rfl⟩
    · rw [if_neg e] at hs
      rcases ih (by omega) with h | ⟨p, h1, h2, h3⟩
      · exact .inl (by omega)
      · exact .inr ⟨p, by omega, h2, by omega⟩

theorem getD_bump (c : List Nat) (t u : Nat) : (bump c t).getD u 0 = if t = u ∧ u < c.length then c.getD u 0 + 1 else c.getD u 0 := by
  unfold bump
  rw [List.getD_eq_getElem?_getD, List.getD_eq_getElem?_getD, List.getElem?_modify]
  by_cases hu : u < c.length
  · rw [List.getElem?_eq_getElem hu]
    by_cases e : t = u <;> simp [e, hu]
  · rw [List.getElem?_eq_none (by omega)]
    simp [hu]
theorem nth_inv (T k : Nat) (hk : k ≤ l.length) (hT : ∀ e ∈ l, e.t.toNat < T) :
    ∃ many nth, (l.take k).foldl nthS (List.replicate T 0, []) = (many, nth) ∧ many.length = T ∧ (∀ t, t < T → many.getD t 0 = cnt l t k) ∧ nth.length = k ∧ ∀ i, i < k → nth.getD i 0 = cnt l (th l i) (i + 1) := by
  induction k with
  | zero => exact ⟨_, _, rfl, by simp, fun t ht => by simp [cnt_zero, ht], rfl, by omega⟩
  | succ k ih =>
    obtain ⟨many, nth, h1, h2, h3, h4, h5⟩ := ih (by omega)
    have hlt : k < l.length := by omega
    have hth : th l k < T := hT _ (at_mem hlt)
    rw [fold_succ nthS _ hlt, h1]
    have e : (l[k]).t.toNat = th l k := by unfold th; rw [at_eq hlt]
    refine ⟨bump many (th l k), nth ++ [(bump many (th l k)).getD (th l k) 0], by simp only [nthS, e], by rw [bump_length]; exact h2, fun t ht => ?_, by simp [h4], fun i hi => ?_⟩
    · rw [getD_bump, cnt_succ l t hlt, h3 t ht]
      by_cases e : th l k = t
      · rw [if_pos ⟨e, by omega⟩, if_pos e]
      · rw [if_neg (fun h => e h.1), if_neg e]; rfl
    · by_cases e : i = k
      · subst e
        rw [List.getD_eq_getElem?_getD, List.getElem?_append_right (by omega), h4, Nat.sub_self]
        simp only [List.getElem?_cons_zero, Option.getD_some]
        rw [getD_bump, if_pos ⟨rfl, by omega⟩, h3 _ hth, cnt_succ l _ hlt, if_pos rfl]
      · rw [List.getD_eq_getElem?_getD, List.getElem?_append_left (by omega), ← List.getD_eq_getElem?_getD]
        exact h5 i (by omega)
theorem nth_eq {i : Nat} (hi : i < l.length) : (nthP l).getD i 0 = cnt l (th l i) (i + 1) := by
  obtain ⟨many, nth, h1, _, _, _, h5⟩ := nth_inv l (threadsP l) l.length (Nat.le_refl _) fun e he => threads_gt he
  rw [List.take_length] at h1
  unfold nthP; rw [h1]
  exact h5 i hi

/-! ### Clocks -/
theorem getD_zip {c d : List Nat} {t : Nat} (h : t < c.length) (h2 : t < d.length) : (List.zipWith max c d).getD t 0 = max (c.getD t 0) (d.getD t 0) := by
  rw [List.getD_eq_getElem?_getD, List.getD_eq_getElem?_getD, List.getD_eq_getElem?_getD, List.getElem?_zipWith, List.getElem?_eq_getElem h, List.getElem?_eq_getElem h2]; rfl
theorem mix_max {T j t : Nat} {out : List (List Nat)} (ho : ∀ c ∈ out, c.length = T) (hj : j ≤ out.length) (ht : t < T) (k : Nat) (hk : k ≤ j) :
    (∀ i, i < k → depend (at' l i) (at' l j) = true → (out.getD i []).getD t 0 ≤ ((List.range k).foldl (mixS l out j) (List.replicate T 0)).getD t 0) ∧
    (((List.range k).foldl (mixS l out j) (List.replicate T 0)).getD t 0 = 0 ∨ ∃ i, i < k ∧ depend (at' l i) (at' l j) = true ∧ ((List.range k).foldl (mixS l out j) (List.replicate T 0)).getD t 0 = (out.getD i []).getD t 0) := by
  induction k with
  | zero => exact ⟨by omega, .inl (by simp [ht])⟩
  | succ k ih =>
    obtain ⟨h1, h2⟩ := ih (by omega)
    have hlen := mix_length (l := l) ho hj k (by omega)
    have e : (List.range (k + 1)).foldl (mixS l out j) (List.replicate T 0) = mixS l out j ((List.range k).foldl (mixS l out j) (List.replicate T 0)) k := by rw [List.range_succ, List.foldl_append]; rfl
    rw [e]
    generalize (List.range k).foldl (mixS l out j) (List.replicate T 0) = c at *
    have hdl : (out.getD k []).length = T := by
      rw [List.getD_eq_getElem?_getD, List.getElem?_eq_getElem (by omega : k < out.length)]; exact ho _ (List.getElem_mem _)
    unfold mixS
    by_cases hd : depend (at' l k) (at' l j) = true
    · rw [if_pos hd, getD_zip (by omega) (by omega)]
      refine ⟨fun i hi hdi => ?_, ?_⟩
      · by_cases e : i = k
        · subst e; exact Nat.le_max_right _ _
        · exact Nat.le_trans (h1 i (by omega) hdi) (Nat.le_max_left _ _)
      · rcases Nat.le_total (c.getD t 0) ((out.getD k []).getD t 0) with h | h
        · rw [Nat.max_eq_right h]; exact .inr ⟨k, by omega, hd, rfl⟩
        · rw [Nat.max_eq_left h]
          rcases h2 with h2 | ⟨i, q1, q2, q3⟩
          · exact .inl h2
          · exact .inr ⟨i, by omega, q2, q3⟩
    · rw [if_neg hd]
      refine ⟨fun i hi hdi => h1 i ?_ hdi, h2.imp id fun ⟨i, q1, q2, q3⟩ => ⟨i, by omega, q2, q3⟩⟩
      rcases Nat.lt_or_ge i k with h | h
      · exact h
      · have : i = k := by omega
        subst this; exact absurd hdi hd
theorem clocksN_prefix (T : Nat) {k j : Nat} (h : k ≤ j) : ∃ t, clocksN l T j = clocksN l T k ++ t := by
  induction j with
  | zero => have : k = 0 := by omega
            subst this; exact ⟨[], by simp⟩
  | succ j ih =>
    by_cases e : k = j + 1
    · subst e; exact ⟨[], by simp⟩
    · obtain ⟨t, ht⟩ := ih (by omega)
      exact ⟨t ++ [clockRow l T (clocksN l T j) j], by rw [clocksN_succ, ht]; simp⟩
theorem clocksN_getD (T : Nat) {k j : Nat} (hk : k < j) (hj : j ≤ l.length) : (clocksN l T j).getD k [] = (clocksP l T).getD k [] := by
  obtain ⟨t, ht⟩ := clocksN_prefix l T hj
  unfold clocksP
  rw [ht, List.getD_eq_getElem?_getD, List.getD_eq_getElem?_getD, List.getElem?_append_left (by rw [clocksN_length]; exact hk)]
theorem clocksP_row (T : Nat) {j : Nat} (hj : j < l.length) : (clocksP l T).getD j [] = clockRow l T (clocksN l T j) j := by
  rw [← clocksN_getD l T (k := j) (j := j + 1) (by omega) (by omega), clocksN_succ, List.getD_eq_getElem?_getD, List.getElem?_append_right (by rw [clocksN_length]; exact Nat.le_refl _), clocksN_length]
  simp
variable {l}
theorem same_thread (ht : Thr l) {i j : Nat} (hi : i < l.length) (hj : j < l.length) (h : th l i = th l j) : depend (at' l i) (at' l j) = true := by
  apply depend_thread
  have := ht _ (at_mem hi); have := ht _ (at_mem hj)
  unfold th at h; omega
/-- **A clock's number**: of a thread, the latest that happens ahead of it, or it. -/
theorem clock_spec (ht : Thr l) : ∀ (j : Nat), j < l.length → ∀ t, t < threadsP l →
    (∀ k, (k = j ∨ Hb l k j) → th l k = t → cnt l t (k + 1) ≤ ((clocksP l (threadsP l)).getD j []).getD t 0) ∧
    (((clocksP l (threadsP l)).getD j []).getD t 0 = 0 ∨ ∃ k, (k = j ∨ Hb l k j) ∧ th l k = t ∧ ((clocksP l (threadsP l)).getD j []).getD t 0 = cnt l t (k + 1)) := by
  intro j
  induction j using Nat.strongRecOn with
  | _ j ih =>
    intro hj t htT
    have hrows := clocksN_rows l (threadsP l) j
    have hlen := clocksN_length l (threadsP l) j
    obtain ⟨m1, m2⟩ := mix_max l hrows (by omega) htT j (Nat.le_refl _)
    have mlen := mix_length (l := l) hrows (by omega : j ≤ _) j (Nat.le_refl _)
    rw [clocksP_row l _ hj]
    unfold clockRow
    rw [getD_bump]
    have eout : ∀ i, i < j → (clocksN l (threadsP l) j).getD i [] = (clocksP l (threadsP l)).getD i [] := fun i hi => clocksN_getD l _ hi (by omega)
    generalize (List.range j).foldl (mixS l (clocksN l (threadsP l) j) j) (List.replicate (threadsP l) 0) = c at *
    have hthj : (at' l j).t.toNat = th l j := rfl
    rw [hthj, mlen]
    by_cases e : th l j = t
    · rw [if_pos ⟨e, htT⟩]
      have hcj := cnt_succ l t hj
      rw [if_pos e] at hcj
      -- the number ahead of it
      have hm : c.getD t 0 = cnt l t j := by
        apply Nat.le_antisymm
        · rcases m2 with h | ⟨i, h1, h2, h3⟩
          · omega
          · rw [h3, eout i h1]
            rcases (ih i h1 (by omega) t htT).2 with h | ⟨k, hk, _, h⟩
            · omega
            · rw [h]
              have : k < j := by rcases hk with rfl | hk
                                 · exact h1
                                 · have := hk.lt.1; omega
              exact cnt_mono l t (by omega)
        · rcases cnt_last l t j (by omega) with h | ⟨p, h1, h2, h3⟩
          · omega
          · rw [← h3]
            have hd := same_thread ht (i := p) (j := j) (by omega) hj (by omega)
            have := m1 p h1 hd
            rw [eout p h1] at this
            exact Nat.le_trans ((ih p h1 (by omega) t htT).1 p (.inl rfl) h2) this
      refine ⟨fun k hk hkt => ?_, .inr ⟨j, .inl rfl, e, by omega⟩⟩
      rcases hk with rfl | hk
      · omega
      · have := cnt_mono l t (i := k + 1) (k := j) (by have := hk.lt.1; omega); omega
    · rw [if_neg fun h => e h.1]
      refine ⟨fun k hk hkt => ?_, ?_⟩
      · rcases hk with rfl | hk
        · exact absurd hkt e
        · obtain ⟨hkj, _⟩ := hk.lt
          rcases ((hb_iff l hj).1 hk).2 with hd | ⟨m, h5, h6, h7, h8⟩
          · have := m1 k hkj hd
            rw [eout k hkj] at this
            exact Nat.le_trans ((ih k hkj (by omega) t htT).1 k (.inl rfl) hkt) this
          · have := m1 m h6 h7
            rw [eout m h6] at this
            exact Nat.le_trans ((ih m h6 (by omega) t htT).1 k (.inr h8) hkt) this
      · rcases m2 with h | ⟨i, h1, h2, h3⟩
        · exact .inl h
        · rw [h3, eout i h1]
          rcases (ih i h1 (by omega) t htT).2 with h | ⟨k, hk, hkt, h⟩
          · exact .inl h
          · refine .inr ⟨k, .inr ?_, hkt, h⟩
            have hij : Hb l i j := .dep h1 hj h2
            rcases hk with rfl | hk
            · exact hij
            · exact hk.trans hij
/-- **Before is it.** -/
theorem before_iff (ht : Thr l) {i j : Nat} (hj : j < l.length) : beforeP l i j = true ↔ Hb l i j := by
  unfold beforeP
  simp only [Bool.and_eq_true, decide_eq_true_eq]
  constructor
  · rintro ⟨⟨hij, _⟩, hle⟩
    have hi : i < l.length := by omega
    have hT : th l i < threadsP l := threads_gt (at_mem hi)
    rw [nth_eq l hi] at hle
    change cnt l (th l i) (i + 1) ≤ ((clocksP l (threadsP l)).getD j []).getD (th l i) 0 at hle
    have hpos : 0 < cnt l (th l i) (i + 1) := by rw [cnt_succ l _ hi, if_pos rfl]; omega
    rcases (clock_spec ht j hj _ hT).2 with h | ⟨k, hk, hkt, h⟩
    · omega
    · rw [h] at hle
      have hik : i ≤ k := by
        rcases Nat.lt_or_ge k i with h2 | h2
        · have h3 := cnt_mono l (th l i) (i := k + 1) (k := i) (by omega)
          have h4 := cnt_succ l (th l i) hi
          rw [if_pos rfl] at h4; omega
        · exact h2
      rcases Nat.eq_or_lt_of_le hik with rfl | hlt
      · rcases hk with rfl | hk
        · omega
        · exact hk
      · have hkl : k < l.length := by rcases hk with rfl | hk
                                      · exact hj
                                      · have := hk.lt.1; omega
        have h1 : Hb l i k := .dep hlt hkl (same_thread ht hi hkl hkt.symm)
        rcases hk with rfl | hk
        · exact h1
        · exact h1.trans hk
  · intro h
    obtain ⟨hij, _⟩ := h.lt
    have hi : i < l.length := by omega
    have hT : th l i < threadsP l := threads_gt (at_mem hi)
    refine ⟨⟨hij, hj⟩, ?_⟩
    rw [nth_eq l hi]
    exact (clock_spec ht j hj _ hT).1 i (.inr h) rfl
theorem before_contains (ht : Thr l) {i j : Nat} (hj : j < l.length) : beforeP l i j = ((aheadP l).getD j []).contains i := by
  rw [Bool.eq_iff_iff, before_iff ht hj, List.contains_iff_mem]; rfl
end

/-! ### The races -/
theorem flat_congr {α β : Type} {f g : α → List β} {l : List α} (h : ∀ x ∈ l, f x = g x) : l.flatMap f = l.flatMap g := by
  induction l with
  | nil => rfl
  | cons x l ih => rw [List.flatMap_cons, List.flatMap_cons, h x List.mem_cons_self, ih fun y hy => h y (List.mem_cons_of_mem _ hy)]
theorem races_eq {l : List Ev} (ht : Thr l) : racesL l = racesP l := by
  unfold racesL racesP
  refine flat_congr fun j hj => ?_
  rw [List.mem_range] at hj
  unfold raceRowL raceRow
  congr 1
  refine List.filter_congr fun i hi => ?_
  rw [List.mem_range] at hi
  unfold raceOkL raceOk
  rw [foldl_and fun k => !(((aheadP l).getD k []).contains i && ((aheadP l).getD j []).contains k)]
  have e1 : ((at' l i).t != (at' l j).t && depend (at' l i) (at' l j)) = !((at' l i).t == (at' l j).t || !depend (at' l i) (at' l j)) := by
    rw [bne]; cases (at' l i).t == (at' l j).t <;> cases depend (at' l i) (at' l j) <;> rfl
  rw [e1]
  congr 1
  rw [Bool.eq_iff_iff, List.all_eq_true, List.all_eq_true]
  refine forall_congr' fun k => forall_congr' fun hk => ?_
  rw [List.mem_range'_1] at hk
  rw [before_contains ht (by omega), before_contains ht hj]
end Go.Awp.B

/- RaceAll, RaceTurns: walked. -/
namespace Go.Awp.R1
open Go Go.Awp Go.Proofs Go.Awp.B

theorem Awake13_ok : APure TC 33 [] (.bool true) := by
  have h1 := New_ok 0 [⟨3, true⟩] (by decide)
  have h2 := New_ok 1 [⟨3, true⟩] (by decide)
  rw [show newE 0 [⟨3, true⟩] = ⟨0, [⟨3, true⟩]⟩ from rfl] at h1
  rw [show newE 1 [⟨3, true⟩] = ⟨1, [⟨3, true⟩]⟩ from rfl] at h2
  have hf : Few [⟨0, [⟨3, true⟩]⟩, ⟨1, [⟨3, true⟩]⟩] := ⟨by decide, by decide⟩
  have ht : Thr [⟨0, [⟨3, true⟩]⟩, ⟨1, [⟨3, true⟩]⟩] := by unfold Thr; decide
  have h3 := RaceAllP_ok _ hf ht
  have h4 := Turned_ok _ ⟨0, 1⟩ hf ht
  rw [show racesP [⟨0, [⟨3, true⟩]⟩, ⟨1, [⟨3, true⟩]⟩] = [⟨0, 1⟩] from rfl] at h3
  rw [show turnedP [⟨0, [⟨3, true⟩]⟩, ⟨1, [⟨3, true⟩]⟩] ⟨0, 1⟩ = [⟨1, [⟨3, true⟩]⟩] from rfl] at h4
  refine afn_enter Try.func33 rfl rfl rfl (by decide) (Nat.le_of_ble_eq_true rfl) (by kernel_rfl) fun L K hL hR hN hP => ?_
  simp -implicitDefEqProofs
  refine CallF.pure h1 (by decide) ?_
  simp -implicitDefEqProofs
  refine CallF.pure h2 (by decide) ?_
  simp -implicitDefEqProofs
  refine CallF.pure h3 (by decide) ?_
  simp -implicitDefEqProofs
  refine CallF.pure h4 (by decide) ?_
  simp -implicitDefEqProofs
  refine CallF.pure Awake12_ok (by decide) ?_
  simp -implicitDefEqProofs
  exact hR _ (.pure rfl (.refl _))

theorem racesP_len {l : List Ev} (hl : Few l) : (racesP l).length ≤ 1000000 := by
  unfold racesP
  have : ∀ k, k ≤ 1000 → ((List.range k).flatMap (raceRow l)).length ≤ 1000 * k := by
    intro k
    induction k with
    | zero => simp -implicitDefEqProofs
    | succ k ih =>
      intro hk
      have h1 := ih (by omega)
      have h2 := raceRow_len l k
      rw [flat_range_succ, List.length_append]; omega
  have := this l.length hl.len
  have := hl.len
  omega

theorem RaceAll_ok (l : List EE) (hl : short l) (ht : ∀ e ∈ l, e.t ≤ 255) : APure TC 8 [.slice (l.map encEE)] (.bool true) := by
  refine afn_enter Try.func8 rfl rfl rfl (by decide) (Nat.le_of_ble_eq_true rfl) (by kernel_rfl) fun L K hL hR hN hP => ?_
  simp -implicitDefEqProofs
  refine CallF.pure Awake13_ok (by decide) ?_
  simp -implicitDefEqProofs
  refine CallF.pure (Light_ok l 24 hl) (by decide) ?_
  rcases hlt : lightP l 24 <;> simp -implicitDefEqProofs
  · exact hR _ (.pure rfl (.refl _))
  have h := lit_of (n := 24) hlt (by decide) ht
  have hf := h.few
  have hthr := h.thr
  refine CallF.pure h.evs_ok (by decide) ?_
  generalize eventsP l = x at *
  have hlen := racesP_len hf
  have hL := RaceAllL_ok x hf
  rw [races_eq hthr] at hL
  simp -implicitDefEqProofs
  refine CallF.pure (RaceAllP_ok x hf hthr) (by decide) ?_
  simp -implicitDefEqProofs
  refine CallF.pure hL (by decide) ?_
  simp -implicitDefEqProofs
  refine CallF.pure (EqC_ok _ _ (by show _ ≤ _; omega) (by show _ ≤ _; omega)) (by decide) ?_
  simp -implicitDefEqProofs
  exact hR _ (.pure rfl (.refl _))

def wantK (l : List Ev) (a k : Nat) : Bool := decide (k < a) || (decide (a < k) && !((aheadP l).getD k []).contains a)
theorem want_turned {l : List Ev} (ht : Thr l) {a b : Nat} (hab : a < b) (hb : b < l.length) : ((List.range b).filter (wantK l a)).map (at' l) ++ [at' l b] = turnedN l a b := by
  unfold turnedN
  congr 1
  have e1 : List.range b = List.range a ++ [a] ++ List.range' (a + 1) (b - (a + 1)) := by
    have h1 : List.range b = List.range' 0 (a + 1 + (b - (a + 1))) := by rw [List.range_eq_range']; congr 1; omega
    have h2 : List.range' 0 (a + 1) ++ List.range' (0 + 1 * (a + 1)) (b - (a + 1)) = List.range' 0 (a + 1 + (b - (a + 1))) := List.range'_append
    rw [h1, ← h2, ← List.range_eq_range', List.range_succ]
    congr 2; omega
  rw [e1, List.filter_append, List.filter_append, List.map_append, List.map_append]
  have h1 : (List.range a).filter (wantK l a) = List.range a := List.filter_eq_self.2 fun k hk => by rw [List.mem_range] at hk; simp -implicitDefEqProofs [wantK, hk]
  have h2 : [a].filter (wantK l a) = [] := by simp -implicitDefEqProofs [wantK]
  have h3 : (List.range' (a + 1) (b - (a + 1))).filter (wantK l a) = (List.range' (a + 1) (b - (a + 1))).filter fun k => !beforeP l a k := by
    refine List.filter_congr fun k hk => ?_
    rw [List.mem_range'_1] at hk
    rw [before_contains ht (by omega)]
    have n1 : ¬ k < a := by omega
    have n2 : a < k := by omega
    simp -implicitDefEqProofs [wantK, n1, n2]
  have h4 : (List.range a).map (at' l) = l.take a := by
    apply List.ext_getElem
    · simp -implicitDefEqProofs; omega
    · intro i q1 q2
      simp -implicitDefEqProofs at q1
      simp -implicitDefEqProofs [at_eq (by omega : i < l.length)]
  rw [h1, h2, h3, h4]; simp -implicitDefEqProofs

set_option maxRecDepth 100000 in
theorem RaceTurns_ok (l : List EE) (r : Rc) (hl : short l) (ht : ∀ e ∈ l, e.t ≤ 255) : APure TC 12 [.slice (l.map encEE), encC r] (.bool true) := by
  refine afn_enter Try.func12 rfl rfl rfl (by decide) (Nat.le_of_ble_eq_true rfl) (by kernel_rfl) fun L K hL hR hN hP => ?_
  simp -implicitDefEqProofs
  refine CallF.pure Awake13_ok (by decide) ?_
  simp -implicitDefEqProofs
  refine CallF.pure (Light_ok l 24 hl) (by decide) ?_
  have yes : ∀ s : ASt, resAll TC.P s [.tmp 4] = some [.bool true] → K .ret s := fun s hs => hR _ (.pure hs (.refl _))
  rcases hlt : lightP l 24 <;> simp -implicitDefEqProofs
  · exact yes _ rfl
  have h := lit_of (n := 24) hlt (by decide) ht
  have hf := h.few
  have hthr := h.thr
  have hx24 := h.evs
  refine CallF.pure h.evs_ok (by decide) ?_
  generalize eventsP l = x at *
  simp -implicitDefEqProofs
  refine CallF.pure (Turned_ok x r hf hthr) (by decide) ?_
  rcases h1 : decide (r.a < 0) <;> simp -implicitDefEqProofs [h1]
  case true =>
    have e : turnedP x r = [] := by unfold turnedP; rw [if_pos (.inl (by simpa using h1))]
    simp -implicitDefEqProofs [e]
    exact yes _ rfl
  rcases h2 : decide (r.b ≤ r.a) <;> simp -implicitDefEqProofs [h2]
  case true =>
    have e : turnedP x r = [] := by unfold turnedP; rw [if_pos (.inr (.inl (by simpa using h2)))]
    simp -implicitDefEqProofs [e]
    exact yes _ rfl
  rcases h3 : decide ((x.length : Int) ≤ r.b) <;> simp -implicitDefEqProofs [h3]
  case true =>
    have e : turnedP x r = [] := by unfold turnedP; rw [if_pos (.inr (.inr (by simpa using h3)))]
    simp -implicitDefEqProofs [e]
    exact yes _ rfl
  simp -implicitDefEqProofs at h1 h2 h3
  obtain ⟨a, ha⟩ : ∃ a : Nat, r.a = a := ⟨r.a.toNat, by omega⟩
  obtain ⟨b, hb⟩ : ∃ b : Nat, r.b = b := ⟨r.b.toNat, by omega⟩
  have hab : a < b := by omega
  have hbl : b < x.length := by omega
  have hspec : turnedP x r = turnedN x a b := by unfold turnedP; rw [if_neg (by omega), ha, hb]; rfl
  rw [hspec]
  have hwant := want_turned hthr hab hbl
  have hal := aheadN_length x x.length
  have har := aheadN_rows x x.length
  refine CallF.pure (Ahead_ok x hf) (by decide) ?_
  obtain ⟨pre, hpre⟩ : ∃ pre, pre = x.take b := ⟨_, rfl⟩
  have hpl : pre.length = b := by rw [hpre]; simp -implicitDefEqProofs; omega
  have hpm : (x.map encE).take b = pre.map encE := by rw [hpre, List.map_take]
  have hble : b ≤ x.length := by omega
  simp -implicitDefEqProofs [ha, hb, hble, hpm]
  refine wait_turn (turn_thaw (t := 8) (el := 38) (sz := 2) (by simp -implicitDefEqProofs) (by decide)) ?_
  refine loopJ (α := Nat × List Nat) (fun y => y.1 ≤ b ∧ y.2 = (List.range y.1).filter (wantK x a) ∧ y.2.length ≤ y.1)
    (fun y => [(3, .ptr (L, 0) 0), (5, .slice (x.map encE)), (6, .slice ((turnedN x a b).map encE)), (7, .slice ((aheadP x).map encR)), (8, .vec (L, 1) y.2.length), (46, .slice (pre.map encE)), (47, .int .i64 b), (48, .int .i64 y.1)])
    (fun y => [((L, 1), .vec 38 2 ((y.2.map (at' x)).map encE) y.2.length true), ((L, 0), .cells 54 [.int .i64 a, .int .i64 b])]) (fun y => b - y.1) (0, []) (by simp -implicitDefEqProofs) (turn_weak (by simp -implicitDefEqProofs [hpl, ha, hb]) (by simp -implicitDefEqProofs [ha, hb]) (by simp -implicitDefEqProofs)) ?_
  rintro ⟨k, sel⟩ L1 K1 ⟨hk, hsel, hsl⟩ hL1 - hnext hex hrt - -
  simp -implicitDefEqProofs at hk hsl hL1
  have hsel : sel = (List.range k).filter (wantK x a) := hsel
  have n1 : L ≠ L1 := by omega
  have d1 : sel.length ≤ 9223372036854775806 := by omega
  have d2 : (sel.length + 1) * 32 ≤ 140737488355328 := by omega
  simp -implicitDefEqProofs
  refine CondC.mk (fun hc => ?_) (fun hc => ?_)
  · have hkb : k < b := by simpa using hc
    have hkl : k < x.length := by omega
    have hpx : pre[k]? = some (at' x k) := by rw [hpre, List.getElem?_take, if_pos hkb, at_get hkl]
    have hff := filter_range_succ (wantK x a) k
    rw [← hsel] at hff
    have no : wantK x a k = false → (List.range (k + 1)).filter (wantK x a) = sel := fun e => by rw [hff, e]; simp -implicitDefEqProofs
    have yes2 : wantK x a k = true → (List.range (k + 1)).filter (wantK x a) = sel ++ [k] := fun e => by rw [hff, e]; simp -implicitDefEqProofs
    have hk' : k < (aheadP x).length := by show k < (aheadN x x.length).length; omega
    obtain ⟨dk, ek, r3, r4⟩ : ∃ dk, (aheadP x).getD k [] = dk ∧ (aheadP x)[k]? = some dk ∧ short dk := by
      refine ⟨_, rfl, by rw [List.getD_eq_getElem?_getD, List.getElem?_eq_getElem hk']; rfl, ?_⟩
      have := (har ((aheadP x).getD k []) (by rw [List.getD_eq_getElem?_getD, List.getElem?_eq_getElem hk']; exact List.getElem_mem _)).1
      show _ ≤ _; omega
    have hw : wantK x a k = (decide (k < a) || (decide (a < k) && !dk.contains a)) := by unfold wantK; rw [ek]
    rcases g1 : decide (k < a) <;> simp -implicitDefEqProofs [hpx, g1, n1, n1.symm]
    · rcases g2 : decide (a < k) <;> simp -implicitDefEqProofs [g2, n1, n1.symm, wr1 k (by omega)]
      · exact hnext _ (k + 1, sel) ⟨by simp -implicitDefEqProofs; omega, (no (by rw [hw, g1, g2]; rfl)).symm, by simp -implicitDefEqProofs; omega⟩ (by simp -implicitDefEqProofs; omega) (turn_weak (by simp -implicitDefEqProofs) (by simp -implicitDefEqProofs) (by simp -implicitDefEqProofs))
      · simp -implicitDefEqProofs [r3, n1, n1.symm]
        refine CallF.pure (ContI_ok dk a r4) (by decide) ?_
        rcases g3 : dk.contains a <;> simp -implicitDefEqProofs [n1, n1.symm, d1, d2, wr1 k (by omega)]
        · exact hnext _ (k + 1, sel ++ [k]) ⟨by simp -implicitDefEqProofs; omega, (yes2 (by rw [hw, g1, g2, g3]; rfl)).symm, by simp -implicitDefEqProofs; omega⟩ (by simp -implicitDefEqProofs; omega) (turn_weak (by simp -implicitDefEqProofs) (by simp -implicitDefEqProofs) (by simp -implicitDefEqProofs))
        · exact hnext _ (k + 1, sel) ⟨by simp -implicitDefEqProofs; omega, (no (by rw [hw, g1, g2, g3]; rfl)).symm, by simp -implicitDefEqProofs; omega⟩ (by simp -implicitDefEqProofs; omega) (turn_weak (by simp -implicitDefEqProofs) (by simp -implicitDefEqProofs) (by simp -implicitDefEqProofs))
    · simp -implicitDefEqProofs [n1, n1.symm, d1, d2, wr1 k (by omega)]
      exact hnext _ (k + 1, sel ++ [k]) ⟨by simp -implicitDefEqProofs; omega, (yes2 (by rw [hw, g1]; rfl)).symm, by simp -implicitDefEqProofs; omega⟩ (by simp -implicitDefEqProofs; omega) (turn_weak (by simp -implicitDefEqProofs) (by simp -implicitDefEqProofs) (by simp -implicitDefEqProofs))
  · refine hex _ _ ?_
    have hkb : ¬ k < b := by simpa using hc
    have hkk : k = b := by omega
    subst hkk
    rw [← hsel] at hwant
    have hfw : Few (turnedN x a k) := by
      rw [← hwant]
      refine ⟨by simp -implicitDefEqProofs; omega, fun e he => ?_⟩
      rcases List.mem_append.1 he with he | he
      · obtain ⟨i, hi, rfl⟩ := List.mem_map.1 he
        rw [hsel] at hi
        have := (List.mem_filter.1 hi).1
        rw [List.mem_range] at this
        exact hf.m _ (at_mem (by omega))
      · rw [List.mem_singleton.1 he]; exact hf.m _ (at_mem hbl)
    have he := Equal_ok _ _ hfw hfw
    rw [← hwant] at he ⊢
    simp -implicitDefEqProofs [at_get hbl, d1, d2]
    simp -implicitDefEqProofs at he
    refine CallF.borrow he (.cons (.refl _) (.cons (.vec (t := 38) (s := 2) (es := (sel.map (at' x) ++ [at' x k]).map encE) (wr := true) (by simp -implicitDefEqProofs) (by simpa using frzL_refl _)) .nil)) rfl (by decide) ?_
    simp -implicitDefEqProofs
    exact yes _ rfl
end Go.Awp.R1

/- What races and threads tell. -/
namespace Go.Awp.B

def setAll (c : List Nat) (ks : List Nat) : List Nat := ks.foldl (fun c k => c.set k 1) c
/-- One thread, or a race. -/
def covC (l : List Ev) (j i : Nat) : Bool := (at' l i).t == (at' l j).t || (racesP l).contains ⟨i, j⟩
def covMark (l : List Ev) (out : List (List Nat)) (j i : Nat) (c : List Nat) : List Nat := if covC l j i = true then setAll (c.set i 1) (out.getD i []) else c
def cov (l : List Ev) (out : List (List Nat)) (j : Nat) : Nat → List Nat
  | 0 => List.replicate j 0
  | c + 1 => covMark l out j (j - (c + 1)) (cov l out j c)
def covRow (l : List Ev) (out : List (List Nat)) (j : Nat) : List Nat := (List.range j).filter fun i => decide (0 < (cov l out j j).getD i 0)

theorem getD_set (c : List Nat) (k i v : Nat) : (c.set k v).getD i 0 = if k = i ∧ i < c.length then v else c.getD i 0 := by
  rw [List.getD_eq_getElem?_getD, List.getD_eq_getElem?_getD, List.getElem?_set]
  by_cases e : k = i
  · subst e
    by_cases h : k < c.length
    · simp [h]
    · simp [h]
  · simp [e]
theorem setAll_length (c ks : List Nat) : (setAll c ks).length = c.length := by
  induction ks generalizing c with
  | nil => rfl
  | cons k ks ih => show (setAll (c.set k 1) ks).length = _; rw [ih]; simp
theorem getD_setAll (c ks : List Nat) (i : Nat) (hi : i < c.length) : (setAll c ks).getD i 0 = if i ∈ ks then 1 else c.getD i 0 := by
  induction ks generalizing c with
  | nil => simp [setAll]
  | cons k ks ih =>
    show (setAll (c.set k 1) ks).getD i 0 = _
    rw [ih _ (by simpa using hi), getD_set]
    by_cases h1 : i ∈ ks
    · simp [h1]
    · by_cases h2 : k = i
      · simp [h1, h2, hi]
      · simp [h1, h2, Ne.symm h2]
theorem cov_length (l : List Ev) (out : List (List Nat)) (j c : Nat) : (cov l out j c).length = j := by
  induction c with
  | zero => simp [cov]
  | succ c ih => unfold cov covMark; split <;> simp [setAll_length, ih]
theorem cov_spec (l : List Ev) (out : List (List Nat)) (j : Nat) (c : Nat) (hc : c ≤ j) (i : Nat) (hi : i < j) : 0 < (cov l out j c).getD i 0 ↔ ∃ m, j - c ≤ m ∧ m < j ∧ covC l j m = true ∧ (i = m ∨ i ∈ out.getD m []) := by
  induction c with
  | zero => simp [cov, hi]; omega
  | succ c ih =>
    have hlen := cov_length l out j c
    unfold cov covMark
    by_cases h : covC l j (j - (c + 1)) = true
    · rw [if_pos h, getD_setAll _ _ _ (by simpa [hlen] using hi), getD_set]
      constructor
      · intro h1
        by_cases h2 : i ∈ out.getD (j - (c + 1)) []
        · exact ⟨_, Nat.le_refl _, by omega, h, .inr h2⟩
        · rw [if_neg h2] at h1
          by_cases h3 : j - (c + 1) = i
          · exact ⟨_, Nat.le_refl _, by omega, h, .inl h3.symm⟩
          · rw [if_neg fun q => h3 q.1] at h1
            obtain ⟨m, q1, q2, q3, q4⟩ := (ih (by omega)).1 h1
            exact ⟨m, by omega, q2, q3, q4⟩
      · rintro ⟨m, q1, q2, q3, q4⟩
        by_cases h2 : i ∈ out.getD (j - (c + 1)) []
        · rw [if_pos h2]; omega
        · rw [if_neg h2]
          by_cases h3 : j - (c + 1) = i
          · rw [if_pos ⟨h3, by omega⟩]; omega
          · rw [if_neg fun q => h3 q.1]
            refine (ih (by omega)).2 ⟨m, ?_, q2, q3, q4⟩
            rcases Nat.eq_or_lt_of_le q1 with e | e
            · subst e
              rcases q4 with q4 | q4
              · exact absurd q4.symm h3
              · exact absurd q4 h2
            · omega
    · rw [if_neg h, ih (by omega)]
      constructor
      · rintro ⟨m, q1, q2, q3, q4⟩; exact ⟨m, by omega, q2, q3, q4⟩
      · rintro ⟨m, q1, q2, q3, q4⟩
        refine ⟨m, ?_, q2, q3, q4⟩
        rcases Nat.eq_or_lt_of_le q1 with e | e
        · subst e; exact absurd q3 h
        · omega

theorem races_mem {l : List Ev} {i j : Nat} (hj : j < l.length) : (racesP l).contains ⟨i, j⟩ = true ↔ i < j ∧ raceOk l j i = true := by
  rw [List.contains_iff_mem]
  unfold racesP raceRow
  rw [List.mem_flatMap]
  constructor
  · rintro ⟨k, hk, h⟩
    obtain ⟨m, hm, e⟩ := List.mem_map.1 h
    injection e with e1 e2
    have : m = i := by omega
    have : k = j := by omega
    subst_vars
    rw [List.mem_filter, List.mem_range] at hm
    exact hm
  · rintro ⟨h1, h2⟩
    exact ⟨j, List.mem_range.2 hj, List.mem_map.2 ⟨i, List.mem_filter.2 ⟨List.mem_range.2 h1, h2⟩, rfl⟩⟩
theorem race_dep {l : List Ev} {i j : Nat} (h : raceOk l j i = true) : depend (at' l i) (at' l j) = true := by
  unfold raceOk at h
  simp only [Bool.and_eq_true] at h
  have := h.1
  cases hd : depend (at' l i) (at' l j) with
  | true => rfl
  | false => rw [hd] at this; simp at this
theorem cov_hb {l : List Ev} (ht : Thr l) {j : Nat} (hj : j < l.length) : ∀ (d i : Nat), j - i ≤ d → Hb l i j → ∃ m, m < j ∧ covC l j m = true ∧ (i = m ∨ Hb l i m) := by
  intro d
  induction d with
  | zero => intro i hd h; have := h.lt.1; omega
  | succ d ih =>
    intro i hd h
    obtain ⟨hij, _⟩ := h.lt
    have via : ∀ k, i < k → k < j → Hb l i k → Hb l k j → ∃ m, m < j ∧ covC l j m = true ∧ (i = m ∨ Hb l i m) := by
      intro k h1 h2 h3 h4
      obtain ⟨m, q1, q2, q3⟩ := ih k (by omega) h4
      refine ⟨m, q1, q2, .inr ?_⟩
      rcases q3 with rfl | q3
      · exact h3
      · exact h3.trans q3
    rcases ((hb_iff l hj).1 h).2 with hdep | ⟨k, h1, h2, h3, h4⟩
    · by_cases hc : covC l j i = true
      · exact ⟨i, hij, hc, .inl rfl⟩
      · -- no race: there is one between
        unfold covC at hc
        simp only [Bool.or_eq_true, not_or] at hc
        have hnr : ¬ raceOk l j i = true := fun h => hc.2 ((races_mem hj).2 ⟨hij, h⟩)
        unfold raceOk at hnr
        have h1 : (!((at' l i).t == (at' l j).t || !depend (at' l i) (at' l j))) = true := by
          have : ((at' l i).t == (at' l j).t) = false := by simpa using hc.1
          rw [this, hdep]; rfl
        rw [h1, Bool.true_and] at hnr
        have hnr : (List.range' (i + 1) (j - (i + 1))).all (fun k => !(beforeP l i k && beforeP l k j)) = false := Bool.eq_false_iff.2 hnr
        rw [List.all_eq_false] at hnr
        obtain ⟨k, hk, hb⟩ := hnr
        rw [List.mem_range'_1] at hk
        have hb : beforeP l i k = true ∧ beforeP l k j = true := by simpa using hb
        exact via k (by omega) (by omega) ((before_iff ht (by omega)).1 hb.1) ((before_iff ht hj).1 hb.2)
    · exact via k h1 h2 h4 (.dep h2 hj h3)
theorem covRow_eq {l : List Ev} (ht : Thr l) {j : Nat} (hj : j < l.length) : covRow l (aheadN l j) j = aheadRow l (aheadN l j) j := by
  unfold covRow aheadRow
  refine List.filter_congr fun i hi => ?_
  rw [List.mem_range] at hi
  rw [Bool.eq_iff_iff]
  have e1 : isAhead l (aheadN l j) j i = true ↔ Hb l i j := by
    unfold Hb
    rw [aheadP_row l hj]
    unfold aheadRow
    rw [List.mem_filter, List.mem_range]
    exact ⟨fun h => ⟨hi, h⟩, fun h => h.2⟩
  rw [e1, decide_eq_true_eq, cov_spec l _ j j (Nat.le_refl _) i hi]
  constructor
  · rintro ⟨m, _, q2, q3, q4⟩
    have hmj : Hb l m j := by
      refine .dep q2 hj ?_
      unfold covC at q3
      rw [Bool.or_eq_true] at q3
      rcases q3 with q3 | q3
      · exact depend_thread (by simpa using q3)
      · exact race_dep ((races_mem hj).1 q3).2
    rcases q4 with rfl | q4
    · exact hmj
    · have : Hb l i m := by unfold Hb; rw [← aheadN_getD l q2 (by omega)]; exact q4
      exact this.trans hmj
  · intro h
    obtain ⟨m, q1, q2, q3⟩ := cov_hb ht hj j i (by omega) h
    refine ⟨m, by omega, q1, q2, q3.imp id fun h => ?_⟩
    rw [aheadN_getD l q1 (by omega)]; exact h
end Go.Awp.B

/- RaceCovers: walked. -/
namespace Go.Awp.R1
open Go Go.Awp Go.Proofs Go.Awp.B

set_option maxRecDepth 100000 in
theorem RaceCovers_ok (l : List EE) (hl : short l) (ht : ∀ e ∈ l, e.t ≤ 255) : APure TC 9 [.slice (l.map encEE)] (.bool true) := by
  refine afn_enter Try.func9 rfl rfl rfl (by decide) (Nat.le_of_ble_eq_true rfl) (by kernel_rfl) fun L K hL hR hN hP => ?_
  simp -implicitDefEqProofs
  refine CallF.pure Awake13_ok (by decide) ?_
  simp -implicitDefEqProofs
  refine CallF.pure (Light_ok l 16 hl) (by decide) ?_
  rcases hlt : lightP l 16 <;> simp -implicitDefEqProofs
  · exact hR _ (.pure rfl (.refl _))
  have h := lit_of (n := 16) hlt (by decide) ht
  have hf := h.few
  have hthr := h.thr
  have hx16 := h.evs
  refine CallF.pure h.evs_ok (by decide) ?_
  generalize eventsP l = x at *
  have c0 : (x.length : Int) ≤ 9223372036854775807 := by omega
  have c1 : x.length * 24 ≤ 140737488355328 := by omega
  simp -implicitDefEqProofs [c0, c1]
  refine CallF.pure (RaceAllP_ok x hf hthr) (by decide) ?_
  have hrl := racesP_len hf
  simp -implicitDefEqProofs
  refine loopJ (α := Nat) (fun j => j ≤ x.length)
    (fun j => [(3, .slice (x.map encE)), (4, .vec (L, 0) 1), (5, .slice ((racesP x).map encC)), (28, .int .i64 x.length), (29, .int .i64 j)])
    (fun j => [((L, 0), .vec 28 1 ((aheadN x j).map encR ++ List.replicate (x.length - j) .snil) 1 true)]) (fun j => x.length - j) 0 (by simp -implicitDefEqProofs) (turn_weak (by simp -implicitDefEqProofs) (by simp -implicitDefEqProofs [aheadN]) (by simp -implicitDefEqProofs)) ?_
  rintro j L1 K1 hj hL1 - hnext hex hrt - -
  simp -implicitDefEqProofs at hL1
  have n1 : L ≠ L1 := by omega
  simp -implicitDefEqProofs
  refine CondC.mk (fun hb => ?_) (fun hb => ?_)
  · have hlt : j < x.length := by simpa using hb
    obtain ⟨m, hm⟩ : ∃ m, x.length - j = m + 1 := ⟨x.length - j - 1, by omega⟩
    have hsucc := aheadN_succ x j
    rw [← covRow_eq hthr hlt] at hsucc
    have hol := aheadN_length x j
    have hrows := aheadN_rows x j
    generalize aheadN x j = out at *
    have hst : out.map encR ++ List.replicate (x.length - j) V.snil = rowsV out .snil m := by rw [hm]; rfl
    rw [hst]
    have hset : ∀ v w, (rowsV out v m).set j w = rowsV out w m := fun v w => by rw [← hol]; exact rowsV_set out v w m
    have hget : ∀ v, (rowsV out v m)[j]? = some v := fun v => by rw [← hol]; exact rowsV_at out v m
    have hlenr : ∀ v, (rowsV out v m).length = x.length := fun v => by rw [rowsV_len]; omega
    have hget' : ∀ v (h : j < (rowsV out v m).length), (rowsV out v m)[j] = v := fun v h => (List.getElem?_eq_some_iff.1 (hget v)).2
    have j0 : (j : Int) ≤ 9223372036854775807 := by omega
    have j1 : j * 8 ≤ 140737488355328 := by omega
    have j2 : IntKind.i64.wrap ((j : Int) - 1) = (j : Int) - 1 := wrap_i64 (by omega) (by omega)
    simp -implicitDefEqProofs [j0, j1, j2, n1, n1.symm]
    refine loopJ (α := Nat × List Nat) (fun y => y.1 ≤ j ∧ y.2 = cov x out j y.1)
      (fun y => [(3, .slice (x.map encE)), (4, .vec (L, 0) 1), (5, .slice ((racesP x).map encC)), (6, .int .i64 j), (7, .vec (L1, 0) 1), (8, .int .i64 ((j : Int) - y.1 - 1)), (28, .int .i64 x.length), (29, .int .i64 j)])
      (fun y => [((L1, 0), .vec 3 1 (y.2.map encI) 1 true), ((L, 0), .vec 28 1 (rowsV out .snil m) 1 true)]) (fun y => j - y.1) (0, List.replicate j 0) (by simp -implicitDefEqProofs [cov]) (turn_weak (by simp -implicitDefEqProofs) (by simp -implicitDefEqProofs) (by simp -implicitDefEqProofs)) ?_
    rintro ⟨c, inn⟩ L2 K2 ⟨hc, hinn⟩ hL2 - hnext2 hex2 hrt2 - -
    simp -implicitDefEqProofs at hc hinn hL2
    have n2 : L ≠ L2 := by omega
    have n3 : L1 ≠ L2 := by omega
    have hil : inn.length = j := by rw [hinn]; exact cov_length _ _ _ _
    simp -implicitDefEqProofs
    refine CondC.mk (fun hb => ?_) (fun hb => ?_)
    · have hcj : c < j := by simp -implicitDefEqProofs at hb; omega
      obtain ⟨i, hi⟩ : ∃ i, i = j - (c + 1) := ⟨_, rfl⟩
      have hii : (j : Int) - c - 1 = (i : Int) := by omega
      have hil2 : i < x.length := by omega
      have hij : i < j := by omega
      have hio : i < out.length := by omega
      have hstep : cov x out j (c + 1) = covMark x out j i inn := by rw [hi, hinn]; rfl
      have hwi : IntKind.i64.wrap ((i : Int) - 1) = (j : Int) - ((c + 1 : Nat) : Int) - 1 := by rw [wrap_i64 (by omega) (by omega)]; omega
      have hri := rowsV_lt (v := .snil) (m := m) hio
      have hrow := hrows (out.getD i []) (by rw [List.getD_eq_getElem?_getD, List.getElem?_eq_getElem hio]; exact List.getElem_mem _)
      have hcov : covC x j i = ((at' x i).t == (at' x j).t || (racesP x).contains (rc j i)) := rfl
      have hmark : covC x j i = true → covMark x out j i inn = setAll (inn.set i 1) (out.getD i []) := fun h => by unfold covMark; rw [if_pos h]
      have hnomark : covC x j i = false → covMark x out j i inn = inn := fun h => by unfold covMark; rw [h]; rfl
      generalize out.getD i [] = d at hri hrow hmark
      have hri' := (List.getElem?_eq_some_iff.1 hri).2
      have hwi' : IntKind.i64.wrap ((i : Int) - 1) = (j : Int) - ((c : Int) + 1) - 1 := by rw [hwi]; simp -implicitDefEqProofs
      have q1 : i < inn.length := by omega
      obtain ⟨b0, hb0⟩ : ∃ b0, b0 = covC x j i := ⟨_, rfl⟩
      rcases heq : ((at' x i).t == (at' x j).t) <;> simp -implicitDefEqProofs [hii, at_get hil2, at_get hlt, heq]
      case' false =>
        refine CallF.pure (ContC_ok (racesP x) (rc j i) (by show _ ≤ _; omega)) (by decide) ?_
        rcases hcc : (racesP x).contains (rc j i) <;> simp -implicitDefEqProofs
      case' false.false =>
        simp -implicitDefEqProofs [hwi']
        refine hnext2 _ (c + 1, inn) ⟨by simp -implicitDefEqProofs; omega, ?_⟩ (by simp -implicitDefEqProofs; omega) (turn_weak (by simp -implicitDefEqProofs) (by simp -implicitDefEqProofs) (by simp -implicitDefEqProofs))
        rw [hstep, hnomark (by rw [hcov, heq, hcc]; rfl)]
      all_goals
        have hm1 := hmark (by first | (rw [hcov, heq, hcc]; rfl) | (rw [hcov, heq]; rfl))
        simp -implicitDefEqProofs [hii, q1, n1, n1.symm, hlenr, hil2, hri']
        refine loopJ (α := Nat) (fun p => p ≤ d.length)
          (fun p => [(3, .slice (x.map encE)), (4, .vec (L, 0) 1), (5, .slice ((racesP x).map encC)), (6, .int .i64 j), (7, .vec (L1, 0) 1), (8, .int .i64 i), (28, .int .i64 x.length), (29, .int .i64 j), (64, .slice (d.map encI)), (65, .int .i64 d.length), (66, .int .i64 p)])
          (fun p => [((L1, 0), .vec 3 1 ((setAll (inn.set i 1) (d.take p)).map encI) 1 true), ((L, 0), .vec 28 1 (rowsV out .snil m) 1 true)]) (fun p => d.length - p) 0 (by simp -implicitDefEqProofs) (turn_weak (by simp -implicitDefEqProofs) (by simp -implicitDefEqProofs [setAll, List.map_set]) (by simp -implicitDefEqProofs)) ?_
        rintro p L3 K3 hp hL3 - hnext3 hex3 hrt3 - -
        simp -implicitDefEqProofs at hL3
        have n4 : L ≠ L3 := by omega
        have n5 : L1 ≠ L3 := by omega
        simp -implicitDefEqProofs
        refine CondC.mk (fun hb => ?_) (fun hb => ?_)
        · have hpd : p < d.length := by simpa using hb
          have hfs := fold_succ (fun (c : List Nat) k => c.set k 1) (inn.set i 1) hpd
          have hkd := hrow.2 _ (List.getElem_mem hpd)
          have hxp : d[p]? = some d[p] := List.getElem?_eq_getElem hpd
          have hsl := setAll_length (inn.set i 1) (d.take p)
          generalize d[p] = k at hfs hkd hxp
          have hfs : setAll (inn.set i 1) (d.take (p + 1)) = (setAll (inn.set i 1) (d.take p)).set k 1 := hfs
          generalize setAll (inn.set i 1) (d.take p) = cc at *
          have hkc : k < cc.length := by rw [hsl]; simp -implicitDefEqProofs; omega
          simp -implicitDefEqProofs [hxp, hkc, n1, n1.symm, wr1 p (by omega)]
          exact hnext3 _ (p + 1) (by omega) (by omega) (turn_weak (by simp -implicitDefEqProofs) (by simp -implicitDefEqProofs [hfs, List.map_set]) (by simp -implicitDefEqProofs))
        · refine hex3 _ _ ?_
          have hpd : ¬ p < d.length := by simpa using hb
          have e : d.take p = d := List.take_of_length_le (by omega)
          rw [e]
          simp -implicitDefEqProofs [hwi']
          refine hnext2 _ (c + 1, setAll (inn.set i 1) d) ⟨by simp -implicitDefEqProofs; omega, by rw [hstep, hm1]⟩ (by simp -implicitDefEqProofs; omega) (turn_weak (by simp -implicitDefEqProofs) (by simp -implicitDefEqProofs) (by simp -implicitDefEqProofs))
    · refine hex2 _ _ ?_
      have hcj : c = j := by simp -implicitDefEqProofs at hb; omega
      subst hcj
      have hcr : ∀ k, ((List.range k).filter fun i => decide (0 < inn.getD i 0)).length ≤ k := fun k => by have := List.length_filter_le (fun i => decide (0 < inn.getD i 0)) (List.range k); simpa using this
      have hfull : covRow x out c = (List.range c).filter fun i => decide (0 < inn.getD i 0) := by unfold covRow; rw [hinn]
      simp -implicitDefEqProofs [hil]
      refine wait_turn (turn_thawV (id := (L, 0)) (t := 28) (s := 1) (i := c) (ver := 1) (el := 3) (sz := 1) (es := rowsV out .snil m) (wr := true) (by simp -implicitDefEqProofs [n1, n1.symm]) (by rw [← hol]; exact rowsV_at out .snil m) (by decide)) ?_
      simp -implicitDefEqProofs [hset, n1, n1.symm]
      refine loopJ (α := Nat × List Nat) (fun y => y.1 ≤ c ∧ y.2 = (List.range y.1).filter (fun i => decide (0 < inn.getD i 0)) ∧ y.2.length ≤ y.1)
        (fun y => [(3, .slice (x.map encE)), (4, .vec (L, 0) 1), (5, .slice ((racesP x).map encC)), (6, .int .i64 c), (28, .int .i64 x.length), (29, .int .i64 c), (74, .vec (L1, 0) 1), (75, .int .i64 c), (76, .int .i64 y.1)])
        (fun y => [((L1, 1), .vec 3 1 (y.2.map encI) y.2.length true), ((L1, 0), .vec 3 1 (inn.map encI) 1 true), ((L, 0), .vec 28 1 (rowsV out (.vec (L1, 1) y.2.length) m) 1 true)]) (fun y => c - y.1) (0, []) (by simp -implicitDefEqProofs) (turn_weak (by simp -implicitDefEqProofs) (by simp -implicitDefEqProofs) (by simp -implicitDefEqProofs)) ?_
      rintro ⟨p, row⟩ L3 K3 ⟨hp, hrow, hrlen⟩ hL3 - hnext3 hex3 hrt3 - -
      simp -implicitDefEqProofs at hp hrlen hL3
      have hrow : row = (List.range p).filter (fun i => decide (0 < inn.getD i 0)) := hrow
      have n4 : L ≠ L3 := by omega
      have n5 : L1 ≠ L3 := by omega
      simp -implicitDefEqProofs
      refine CondC.mk (fun hb => ?_) (fun hb => ?_)
      · have hpc : p < c := by simpa using hb
        have hpi : p < inn.length := by omega
        have hff := filter_range_succ (fun i => decide (0 < inn.getD i 0)) p
        rw [← hrow] at hff
        have hgd : inn.getD p 0 = inn[p] := by rw [List.getD_eq_getElem?_getD, List.getElem?_eq_getElem hpi]; rfl
        rw [hgd] at hff
        have d1 : row.length ≤ 9223372036854775806 := by omega
        have d2 : (row.length + 1) * 8 ≤ 140737488355328 := by omega
        generalize hv : inn[p] = v at hff
        rcases hv0 : decide (0 < v) <;> simp -implicitDefEqProofs [hpi, hv, hv0, hpc, n1, n1.symm, hlenr, hlt, hget', hset, d1, d2, wr1 p (by omega)]
        · exact hnext3 _ (p + 1, row) ⟨by simp -implicitDefEqProofs; omega, by rw [hff, hv0]; simp -implicitDefEqProofs, by simp -implicitDefEqProofs; omega⟩ (by simp -implicitDefEqProofs; omega) (turn_weak (by simp -implicitDefEqProofs) (by simp -implicitDefEqProofs) (by simp -implicitDefEqProofs))
        · exact hnext3 _ (p + 1, row ++ [p]) ⟨by simp -implicitDefEqProofs; omega, by rw [hff, hv0]; simp -implicitDefEqProofs, by simp -implicitDefEqProofs; omega⟩ (by simp -implicitDefEqProofs; omega) (turn_weak (by simp -implicitDefEqProofs) (by simp -implicitDefEqProofs) (by simp -implicitDefEqProofs))
      · refine hex3 _ _ ?_
        have hpc : ¬ p < c := by simpa using hb
        have hpp : p = c := by omega
        subst hpp
        simp -implicitDefEqProofs [wr1 p (by omega)]
        refine hnext _ (p + 1) (by omega) (by omega) (turn_frz [((L1, 1), .vec 3 1 (row.map encI) row.length true)] [((L, 0), .vec 28 1 (rowsV out (.vec (L1, 1) row.length) m) 1 true)] (by simp -implicitDefEqProofs) (by simp -implicitDefEqProofs) (by simp -implicitDefEqProofs) (by simp -implicitDefEqProofs) (by simp -implicitDefEqProofs [n1, n1.symm]) ?_)
        rw [hsucc, hfull, ← hrow, show x.length - (p + 1) = m by omega]
        refine .cons (.vec ?_) .nil
        unfold rowsV
        simp only [List.map_append, List.map_cons, List.map_nil, List.append_assoc, List.cons_append, List.nil_append]
        exact frzL_append (frzL_refl _) (.cons (.vec (t := 3) (s := 1) (es := row.map encI) (wr := true) (by simp -implicitDefEqProofs) (frzL_refl _)) (frzL_refl _))
  refine hex _ _ ?_
  have hjn : ¬ j < x.length := by simpa using hb
  have hjl : j = x.length := by omega
  subst hjl
  simp -implicitDefEqProofs
  refine CallF.pure (Ahead_ok x hf) (by decide) ?_
  have hal : (aheadP x).length = x.length := aheadN_length x x.length
  have har : ∀ c ∈ aheadP x, c.length ≤ x.length ∧ ∀ i ∈ c, i < x.length := aheadN_rows x x.length
  rw [show aheadN x x.length = aheadP x from rfl]
  simp -implicitDefEqProofs
  refine loopJ (α := Nat) (fun k => k ≤ x.length)
    (fun k => [(4, .vec (L, 0) 1), (13, .slice ((aheadP x).map encR)), (98, .int .i64 x.length), (99, .int .i64 k)])
    (fun k => [((L, 0), .vec 28 1 ((aheadP x).map encR) 1 true)]) (fun k => x.length - k) 0 (by simp -implicitDefEqProofs) (turn_weak (by simp -implicitDefEqProofs) (by simp -implicitDefEqProofs) (by simp -implicitDefEqProofs)) ?_
  rintro k L2 K2 hk hL2 - hnext2 hex2 hrt2 - -
  simp -implicitDefEqProofs at hL2
  have n2 : L ≠ L2 := by omega
  simp -implicitDefEqProofs
  refine CondC.mk (fun hb => ?_) (fun hb => ?_)
  · have hkl : k < x.length := by simpa using hb
    have hka : k < (aheadP x).length := by omega
    have hrk := (har _ (List.getElem_mem hka)).1
    generalize hd : (aheadP x)[k] = d at hrk
    simp -implicitDefEqProofs [hka, hal, hkl, hd]
    refine CallF.pure (EqInts_ok d d (by show _ ≤ _; omega) (by show _ ≤ _; omega)) (by decide) ?_
    simp -implicitDefEqProofs [wr1 k (by omega)]
    exact hnext2 _ (k + 1) (by omega) (by omega) (turn_weak (by simp -implicitDefEqProofs) (by simp -implicitDefEqProofs) (by simp -implicitDefEqProofs))
  · refine hex2 _ _ ?_
    simp -implicitDefEqProofs
    exact hR _ (.pure rfl (.refl _))
end Go.Awp.R1

/- Arguments of the statements on races. -/
namespace Go.Awp.R1
open Go Go.Awp Go.Proofs Go.Awp.B

set_option maxRecDepth 100000 in
theorem race_arg {H : Type} {enc : TypeId × Value → H} {w : World} {base : Nat} {spare : Nat → Bool} {held : Bool} {v : Value} {q : DataW H} {ps : List MemPlace}
    (ht : DataW.Trod enc Try.prog w base spare held 54 v q ps) (hv : ∃ cs, v = .agg cs) :
    ∃ r : Rc, Rep (Amb.start w) (encC r) v ∧ True := by
  obtain ⟨xs, h1, h2⟩ := struct_arg (d := 5) Try.underlying54 (by kernel_rfl) ht hv
  obtain ⟨ys, zs, rfl, hy1, hy2, us, ws, rfl, hu1, hu2, rfl⟩ := h2
  unfold Sh at hy2 hu2
  rw [Try.underlying3] at hy2 hu2
  obtain ⟨a, rfl, _⟩ := hy2
  obtain ⟨b, rfl, _⟩ := hu2
  exact ⟨⟨a, b⟩, h1, trivial⟩
end Go.Awp.R1

/- Races of events of which two neighbours are exchanged. -/
namespace Go.Awp.B

def turnN (k i : Nat) : Nat := if i = k then k + 1 else if i = k + 1 then k else i
theorem turnN_turnN (k i : Nat) : turnN k (turnN k i) = i := by unfold turnN; split <;> (try split) <;> (try split) <;> omega
theorem turnN_inj {k i j : Nat} (h : turnN k i = turnN k j) : i = j := by rw [← turnN_turnN k i, h, turnN_turnN]
theorem turnN_lt {k i n : Nat} (hk : k + 1 < n) : turnN k i < n ↔ i < n := by unfold turnN; split <;> (try split) <;> omega
theorem turnN_mono {k i j : Nat} (h : i < j) (hne : ¬ (i = k ∧ j = k + 1)) : turnN k i < turnN k j := by
  unfold turnN
  split <;> split <;> (first | omega | (split <;> (first | omega | (split <;> omega))))
theorem turnN_k (k : Nat) : turnN k k = k + 1 := if_pos rfl
theorem turnN_k1 (k : Nat) : turnN k (k + 1) = k := by unfold turnN; rw [if_neg (by omega), if_pos rfl]
theorem turnN_ne {k i : Nat} (h1 : i ≠ k) (h2 : i ≠ k + 1) : turnN k i = i := by unfold turnN; rw [if_neg h1, if_neg h2]
theorem at_exch {l : List Ev} {k : Nat} (hk : k + 1 < l.length) {i : Nat} (hi : i < l.length) : at' (exch l k) (turnN k i) = at' l i := by
  have hl : (exch l k).length = l.length := exch_length l k
  have ht : turnN k i < l.length := (turnN_lt hk).2 hi
  rw [at_eq (by rw [hl]; exact ht)]
  have : (exch l k)[turnN k i]? = some (at' l i) := by
    unfold exch
    rw [List.getElem?_set, List.length_set, List.getElem?_set]
    by_cases h1 : i = k
    · subst h1; rw [turnN_k, if_pos rfl, if_pos (by omega)]
    · by_cases h2 : i = k + 1
      · subst h2; rw [turnN_k1, if_neg (by omega), if_pos rfl, if_pos (by omega)]
      · rw [turnN_ne h1 h2, if_neg (by omega), if_neg (by omega), at_get hi]
  rw [List.getElem?_eq_getElem (by rw [hl]; exact ht)] at this
  simpa using this

/-- What a swap does. -/
structure Swd (l m : List Ev) (k : Nat) : Prop where
  hk : k + 1 < l.length
  len : m.length = l.length
  eq : ∀ i, i < l.length → at' m (turnN k i) = at' l i
  ind : depend (at' l k) (at' l (k + 1)) = false
theorem swd_exch {l : List Ev} {k : Nat} (hk : k + 1 < l.length) (hd : depend (at' l k) (at' l (k + 1)) = false) : Swd l (exch l k) k := ⟨hk, exch_length l k, fun _ hi => at_exch hk hi, hd⟩
theorem Swd.symm {l m : List Ev} {k : Nat} (h : Swd l m k) : Swd m l k := by
  have e : ∀ i, i < m.length → at' l (turnN k i) = at' m i := fun i hi => by
    have := h.eq (turnN k i) ((turnN_lt h.hk).2 (by rw [← h.len]; exact hi))
    rw [turnN_turnN] at this; exact this.symm
  refine ⟨by rw [h.len]; exact h.hk, h.len.symm, e, ?_⟩
  have h1 := e k (by rw [h.len]; have := h.hk; omega)
  have h2 := e (k + 1) (by rw [h.len]; exact h.hk)
  rw [← h1, ← h2]
  have e1 : turnN k k = k + 1 := by unfold turnN; rw [if_pos rfl]
  have e2 : turnN k (k + 1) = k := by unfold turnN; rw [if_neg (by omega), if_pos rfl]
  rw [e1, e2, depend_comm]; exact h.ind
theorem Swd.dep {l m : List Ev} {k : Nat} (h : Swd l m k) {i j : Nat} (hij : i < j) (hj : j < l.length) (hd : depend (at' l i) (at' l j) = true) : turnN k i < turnN k j ∧ depend (at' m (turnN k i)) (at' m (turnN k j)) = true := by
  refine ⟨turnN_mono hij fun e => ?_, by rw [h.eq i (by omega), h.eq j hj]; exact hd⟩
  rw [e.1, e.2, h.ind] at hd; cases hd
theorem Swd.hb {l m : List Ev} {k : Nat} (h : Swd l m k) : ∀ (j i : Nat), Hb l i j → Hb m (turnN k i) (turnN k j) := by
  intro j
  induction j using Nat.strongRecOn with
  | _ j ih =>
    intro i hi
    obtain ⟨hij, hj⟩ := hi.lt
    have hj' : turnN k j < m.length := by rw [h.len]; exact (turnN_lt h.hk).2 hj
    rcases ((hb_iff l hj).1 hi).2 with hd | ⟨p, h1, h2, h3, h4⟩
    · obtain ⟨q1, q2⟩ := h.dep hij hj hd
      exact .dep q1 hj' q2
    · obtain ⟨q1, q2⟩ := h.dep h2 hj h3
      exact (ih p h2 i h4).trans (.dep q1 hj' q2)
theorem Swd.hb_iff {l m : List Ev} {k : Nat} (h : Swd l m k) {i j : Nat} : Hb m (turnN k i) (turnN k j) ↔ Hb l i j :=
  ⟨fun q => by have := h.symm.hb _ _ q; rwa [turnN_turnN, turnN_turnN] at this, h.hb j i⟩
theorem raceOk_iff {l : List Ev} (ht : Thr l) {i j : Nat} (hj : j < l.length) (hij : i < j) : raceOk l j i = true ↔ (at' l i).t ≠ (at' l j).t ∧ depend (at' l i) (at' l j) = true ∧ ∀ p, ¬ (Hb l i p ∧ Hb l p j) := by
  unfold raceOk
  rw [Bool.and_eq_true, List.all_eq_true]
  constructor
  · rintro ⟨h1, h2⟩
    have h1 : (at' l i).t ≠ (at' l j).t ∧ depend (at' l i) (at' l j) = true := by simpa using h1
    refine ⟨h1.1, h1.2, fun p hp => ?_⟩
    have h3 := hp.1.lt
    have h4 := hp.2.lt
    have := h2 p (by rw [List.mem_range'_1]; omega)
    rw [(before_iff ht h3.2).2 hp.1, (before_iff ht hj).2 hp.2] at this
    cases this
  · rintro ⟨h1, h2, h3⟩
    refine ⟨by simp [h1, h2], fun p hp => ?_⟩
    rw [List.mem_range'_1] at hp
    cases hb1 : beforeP l i p with
    | false => rfl
    | true =>
      cases hb2 : beforeP l p j with
      | false => rfl
      | true => exact absurd ⟨(before_iff ht (by omega)).1 hb1, (before_iff ht hj).1 hb2⟩ (h3 p)
theorem Swd.race {l m : List Ev} {k : Nat} (h : Swd l m k) (ht : Thr l) (hm : Thr m) {i j : Nat} (hr : (racesP l).contains ⟨i, j⟩ = true) (hj : j < l.length) : (racesP m).contains ⟨turnN k i, turnN k j⟩ = true := by
  obtain ⟨hij, hok⟩ := (races_mem hj).1 hr
  obtain ⟨h1, h2, h3⟩ := (raceOk_iff ht hj hij).1 hok
  obtain ⟨q1, q2⟩ := h.dep hij hj h2
  have hj' : turnN k j < m.length := by rw [h.len]; exact (turnN_lt h.hk).2 hj
  refine (races_mem hj').2 ⟨q1, (raceOk_iff hm hj' q1).2 ⟨by rw [h.eq i (by omega), h.eq j hj]; exact h1, q2, fun p hp => ?_⟩⟩
  have := turnN_turnN k p
  rw [← this] at hp
  exact h3 _ ⟨h.hb_iff.1 hp.1, h.hb_iff.1 hp.2⟩
theorem races_shape {l : List Ev} {r : Rc} (h : r ∈ racesP l) : ∃ i j : Nat, r = ⟨i, j⟩ ∧ i < j ∧ j < l.length := by
  unfold racesP at h
  obtain ⟨j, hj, h⟩ := List.mem_flatMap.1 h
  unfold raceRow at h
  obtain ⟨i, hi, rfl⟩ := List.mem_map.1 h
  rw [List.mem_filter, List.mem_range] at hi
  exact ⟨i, j, rfl, hi.1, List.mem_range.1 hj⟩
theorem races_nodup (l : List Ev) : (racesP l).Nodup := by
  unfold racesP
  have : ∀ n, ((List.range n).flatMap (raceRow l)).Nodup ∧ ∀ r ∈ (List.range n).flatMap (raceRow l), r.b < n := by
    intro n
    induction n with
    | zero => simp
    | succ n ih =>
      have hrow : (raceRow l n).Nodup := by
        unfold raceRow
        have h1 : ((List.range n).filter (raceOk l n)).Pairwise (fun (a b : Nat) => a ≠ b) := filter_nodup List.nodup_range _
        exact List.Pairwise.map _ (fun a b hab e => hab (by injection e with e1 _; omega)) h1
      have hb : ∀ r ∈ raceRow l n, r.b = n := fun r hr => by
        unfold raceRow at hr
        obtain ⟨i, _, rfl⟩ := List.mem_map.1 hr; rfl
      rw [List.range_succ, List.flatMap_append]
      simp only [List.flatMap_cons, List.flatMap_nil, List.append_nil]
      refine ⟨List.nodup_append.2 ⟨ih.1, hrow, fun a ha b hb' e => ?_⟩, fun r hr => ?_⟩
      · have h1 := ih.2 a ha
        have h2 := hb b hb'
        rw [e, h2] at h1; omega
      · rcases List.mem_append.1 hr with hr | hr
        · have := ih.2 r hr; omega
        · rw [hb r hr]; omega
  exact (this _).1
def turnI (k : Nat) (i : Int) : Int := if i = k then k + 1 else if i = k + 1 then k else i
theorem turnI_nat (k i : Nat) : turnI k i = (turnN k i : Nat) := by unfold turnI turnN; split <;> (try split) <;> (try split) <;> (try split) <;> omega
theorem turnI_inj {k : Nat} {i j : Int} (h : turnI k i = turnI k j) : i = j := by unfold turnI at h; split at h <;> split at h <;> (try split at h) <;> (try split at h) <;> omega
theorem Swd.mem {l m : List Ev} {k : Nat} (h : Swd l m k) (ht : Thr l) (hm : Thr m) {r : Rc} (hr : r ∈ racesP l) : (⟨turnI k r.a, turnI k r.b⟩ : Rc) ∈ racesP m := by
  obtain ⟨i, j, rfl, hij, hj⟩ := races_shape hr
  rw [turnI_nat, turnI_nat]
  exact List.contains_iff_mem.1 (h.race ht hm (List.contains_iff_mem.2 hr) hj)
theorem Swd.le {l m : List Ev} {k : Nat} (h : Swd l m k) (ht : Thr l) (hm : Thr m) : (racesP l).length ≤ (racesP m).length := by
  have hn : ((racesP l).map fun r : Rc => (⟨turnI k r.a, turnI k r.b⟩ : Rc)).Nodup := by
    refine List.Pairwise.map _ (fun a b hab e => hab ?_) (races_nodup l)
    injection e with e1 e2
    cases a; cases b
    rw [Rc.mk.injEq]
    exact ⟨turnI_inj e1, turnI_inj e2⟩
  have := nodup_sub hn (b := racesP m) fun x hx => by
    obtain ⟨r, hr, rfl⟩ := List.mem_map.1 hx
    exact h.mem ht hm hr
  simpa using this
theorem Swd.len_eq {l m : List Ev} {k : Nat} (h : Swd l m k) (ht : Thr l) (hm : Thr m) : (racesP l).length = (racesP m).length := Nat.le_antisymm (h.le ht hm) (h.symm.le hm ht)
end Go.Awp.B

/- AWP, text 27: a statement that draws its order, where some variables are known to stay as they are. -/
namespace Go.Awp
open Go

/-- An operation that looks at no memory that may change: temporaries of cst point to what stays. -/
def idleX (cst : List Tmp) : Op → Bool
  | .load _ (.tmp x) => cst.contains x
  | op => idleOp op
def dstFree (cst : List Tmp) : Option Tmp → Bool
  | none => true
  | some t => !cst.contains t
def Csts (cst : List Tmp) (s : ASt) : Prop := ∀ x, x ∈ cst → ∃ v, s.τ.lookup x = some (.rptr v)
theorem Csts.put {cst : List Tmp} {s : ASt} (h : Csts cst s) {d : Option Tmp} (hd : dstFree cst d = true) (v : V) : Csts cst (s.putD d v) := fun x hx => by
  cases d with
  | none => exact h x hx
  | some t =>
    obtain ⟨w, hw⟩ := h x hx
    refine ⟨w, ?_⟩
    have hne : x ≠ t := fun e => by subst e; simp [dstFree] at hd; exact hd hx
    have hb : (x == t) = false := by simpa using hne
    simp only [ASt.putD, List.lookup_cons, hb]
    exact hw
section
variable {C : Ctx} {cst : List Tmp} {ops : Array Oper}
theorem idleX_reader {op : Op} (h : idleX cst op = true) : writerOp op = false := by
  cases op <;> simp_all [idleX, idleOp, writerOp]
theorem opA_idleX {s : ASt} (hcst : Csts cst s) {get get' : Id → Option Blk} {j j' : Id} {op : Op} (h : idleX cst op = true) : opA C.P (lkA C s.τ) get' j' op = opA C.P (lkA C s.τ) get j op := by
  unfold idleX at h
  split at h
  · rename_i ty x
    obtain ⟨v, hv⟩ := hcst x (List.contains_iff_mem.1 h)
    rw [opA_load, opA_load]
    simp only [lkA, hv, loadR]
  · exact opA_idle h
/-- The small triple of an operation that is no call: with the word on what is idle. -/
theorem plainX {o : Oper} {s : ASt} {v : V} {u : Upd} (hn : Neat s) (hcst : Csts cst s) (h : opA C.P (lkA C s.τ) s.σ.get (s.lv, s.nx) o.op = some (v, u)) :
    ∃ ro wi wo, LT C o (lkA C s.τ) (ro ++ wi) (s.lv, s.nx) s.lv v (ro ++ wo) u.isNew ∧ (∀ x, x ∈ ro ++ wi → x ∈ s.σ) ∧ (Store.keys (ro ++ wi)).Nodup ∧
      (∀ x, x ∈ u.app s.σ (s.lv, s.nx) ↔ (x ∈ wo ∨ (x ∈ s.σ ∧ x.1 ∉ Store.keys wi))) ∧ (∀ id, id ∈ Store.keys ro → id ∈ touch (lkA C s.τ) o.op.operands.toList) ∧
      (∀ id, (id ∈ Store.keys wi ∨ id ∈ Store.keys wo) → id ∈ u.wr (s.lv, s.nx)) ∧ (idleX cst o.op = true → ro = [] ∧ wi = [] ∧ wo = []) ∧ (writerOp o.op = false → wi = [] ∧ wo = []) := by
  by_cases hi : idleX cst o.op = true
  · have hw : writerOp o.op = false := by
      exact idleX_reader hi
    have hu := opA_reader hw h
    subst hu
    refine ⟨[], [], [], LT.of_ok (fun j' _ => ⟨[], opA_ok (σ := []) (u := .none) (by rw [← h]; exact opA_idleX hcst hi), fun x => Iff.rfl⟩) (by simp [Store.keys]), by simp, by simp [Store.keys], fun x => by simp [Upd.app, Store.keys], by simp [Store.keys], by simp [Store.keys], fun _ => ⟨rfl, rfl, rfl⟩, fun _ => ⟨rfl, rfl⟩⟩
  · obtain ⟨ro, wi, wo, h1, h2, h3, h4, h5, h6⟩ := plainD hn h
    refine ⟨ro, wi, wo, h1, h2, h3, h4, h5, h6, fun h => absurd h hi, fun hw => ?_⟩
    have hu := opA_reader hw h
    subst hu
    simp only [Upd.wr] at h6
    have nokey : ∀ σ : Store, (∀ id, id ∈ Store.keys σ → False) → σ = [] := fun σ hσ => by
      cases σ with
      | nil => rfl
      | cons x r => exact (hσ x.1 (by simp [Store.keys])).elim
    exact ⟨nokey wi fun id hid => (by simpa using h6 id (.inl hid)), nokey wo fun id hid => (by simpa using h6 id (.inr hid))⟩

/-- What is known of a chain of operations. -/
structure ChainX (cst : List Tmp) (C : Ctx) (ops : Array Oper) (k len : Nat) (s sN : ASt) (D : Nat → D) : Prop where
  en : EnL C ops s.n s.lv D (List.range' k len) (toMS s)
  app : appL ops D (List.range' k len) (toMS s) = toMS sN
  neat : Neat sN
  n : sN.n = s.n
  lv : sN.lv = s.lv
  nx : s.nx ≤ sN.nx
  j1 : ∀ i, (D i).j.1 = s.lv
  j2 : ∀ i, k ≤ i → s.nx ≤ (D i).j.2
  j3 : ∀ i, k ≤ i → i < k + len → (D i).nw = true → (D i).j.2 < sN.nx
  j4 : ∀ i i', k ≤ i → i < i' → (D i).nw = true → i < k + len → i' < k + len → (D i).j.2 < (D i').j.2
  idle : ∀ i o, k ≤ i → i < k + len → ops[i]? = some o → idleX cst o.op = true → (D i).ro = [] ∧ (D i).wi = [] ∧ (D i).wo = []
  reads : ∀ i o, k ≤ i → i < k + len → ops[i]? = some o → writerOp o.op = false → (D i).wi = [] ∧ (D i).wo = []

theorem ChainX.nil {k : Nat} {s : ASt} (h : Neat s) : ChainX cst C ops k 0 s s fun _ => ⟨false, .tup [], [], [], [], (s.lv, s.nx), false⟩ :=
  ⟨trivial, rfl, h, rfl, rfl, Nat.le_refl _, fun _ => rfl, fun _ _ => Nat.le_refl _, fun _ _ _ h => (by cases h), fun _ _ _ _ h => (by cases h), fun _ _ _ _ _ _ => ⟨rfl, rfl, rfl⟩, fun _ _ _ _ _ _ => ⟨rfl, rfl⟩⟩

theorem ChainX.cons {k len : Nat} {s s1 sN : ASt} {o : Oper} {d : D} {D : Nat → D} (ho : ops[k]? = some o) (he : En C ops s.n s.lv o d (toMS s)) (hm : toMS s1 = (toMS s).app o.dst d) (hn : s1.n = s.n) (hl : s1.lv = s.lv)
    (hx : s.nx ≤ s1.nx) (hj : d.j = (s.lv, s.nx)) (hnw : d.nw = true → s.nx < s1.nx) (hid : idleX cst o.op = true → d.ro = [] ∧ d.wi = [] ∧ d.wo = []) (hrd : writerOp o.op = false → d.wi = [] ∧ d.wo = []) (h : ChainX cst C ops (k + 1) len s1 sN D) :
    ChainX cst C ops k (len + 1) s sN fun i => if i = k then d else D i := by
  have ne : ∀ i ∈ List.range' (k + 1) len, D i = if i = k then d else D i := fun i hi => by
    have := (List.mem_range'_1.1 hi).1
    rw [if_neg (by omega)]
  have hjk : d.j.1 = s.lv ∧ d.j.2 = s.nx := by rw [hj]; exact ⟨rfl, rfl⟩
  refine ⟨?_, ?_, h.neat, h.n.trans hn, h.lv.trans hl, Nat.le_trans hx h.nx, fun i => ?_, fun i hi => ?_, fun i hi hi' hnw' => ?_, fun i i' hi hii hnw' h1 h2 => ?_, fun i o' hi hi' ho' hb => ?_, fun i o' hi hi' ho' hb => ?_⟩
  · rw [List.range'_succ]
    refine ⟨o, ho, by simpa using he, ?_⟩
    simp only [if_true]
    rw [← hm]
    have := h.en
    rw [hn, hl] at this
    exact this.congr ne
  · rw [List.range'_succ]
    simp only [appL, ho, Option.bind_some, if_pos]
    rw [← hm, ← appL_congr (D1 := D) ne]
    exact h.app
  · split
    · exact hjk.1
    · exact (h.j1 i).trans hl
  · split
    · rw [hjk.2]; exact Nat.le_refl _
    · exact Nat.le_trans hx (h.j2 i (by omega))
  · split at hnw'
    · rename_i e; rw [if_pos e, hjk.2]; exact Nat.lt_of_lt_of_le (hnw hnw') h.nx
    · rename_i e; rw [if_neg e]; exact h.j3 i (by omega) (by omega) hnw'
  · rw [if_neg (show i' ≠ k by omega)]
    split at hnw'
    · rename_i e; rw [if_pos e, hjk.2]; exact Nat.lt_of_lt_of_le (hnw hnw') (h.j2 i' (by omega))
    · rename_i e; rw [if_neg e]; exact h.j4 i i' (by omega) hii hnw' (by omega) (by omega)
  · split
    · rename_i e; subst e; rw [ho] at ho'; cases ho'; exact hid hb
    · exact h.idle i o' (by omega) (by omega) ho' hb
  · split
    · rename_i e; subst e; rw [ho] at ho'; cases ho'; exact hrd hb
    · exact h.reads i o' (by omega) (by omega) ho' hb

theorem runQX_chain {K : ASt → Prop} {X : V → ASt → Prop} : ∀ (l : List Oper) (k : Nat) (s : ASt), (∀ j, l[j]? = ops[k + j]?) → Neat s → Csts cst s → (∀ o ∈ l, dstFree cst o.dst = true) → runS C true ops l s K X → ∃ sN D, ChainX cst C ops k l.length s sN D ∧ K sN
  | [], k, s, _, hn, _, _, h => ⟨s, _, .nil hn, h⟩
  | o :: l, k, s, hops, hn, hcst, hfree, h => by
    have hf0 := hfree o List.mem_cons_self
    have hf1 : ∀ o ∈ l, dstFree cst o.dst = true := fun o ho => hfree o (List.mem_cons_of_mem _ ho)
    have ho : ops[k]? = some o := by have := hops 0; simpa using this.symm
    have hops' : ∀ j, l[j]? = ops[k + 1 + j]? := fun j => by have := hops (j + 1); simpa [Nat.add_assoc, Nat.add_comm 1 j] using this
    unfold runS guardK at h
    split at h
    case h_2 => exact h.elim
    rename_i gb hga
    obtain ⟨hyes, hno⟩ := h
    have hgf : guardF ops (toMS s).τ o = some gb := (guardF_toMS s o).trans hga
    cases gb
    · obtain ⟨hd, h⟩ := hno rfl
      have hp := putD_lv s o.dst (.tup [])
      obtain ⟨sN, D, hc, hk⟩ := runQX_chain l (k + 1) _ hops' (hn.put o.dst (.tup [])) (hcst.put hf0 _) hf1 h
      let d : Awp.D := ⟨false, .tup [], [], [], [], (s.lv, s.nx), false⟩
      exact ⟨sN, _, .cons (d := d) ho ⟨hd, hgf, (by intro h; cases h), fun _ => ⟨rfl, rfl, rfl, rfl, rfl⟩, by simp [d], by simp [d, Store.keys]⟩ (toMS_put s o d s rfl fun x => by simp [d, Store.keys]) hp.2.2.1 hp.1 (Nat.le_of_eq hp.2.2.2.symm) rfl (by intro h; cases h) (fun _ => ⟨rfl, rfl, rfl⟩) (fun _ => ⟨rfl, rfl⟩) hc, hk⟩
    · have h := hyes rfl
      have plain : plainS C o s (fun s' => runS C true ops l s' K X) → ∃ sN D, ChainX cst C ops k (l.length + 1) s sN D ∧ K sN := by
        rintro ⟨hd, v, u, hop, h⟩
        obtain ⟨ro, wi, wo, q1, q2, q3, q4, _, _, q7, q8⟩ := plainX (C := C) hn hcst hop
        have hnx := hn.upd u
        have hp := putD_lv (({ s with σ := u.app s.σ (s.lv, s.nx) } : ASt).next u.isNew) o.dst v
        obtain ⟨sN, D, hc, hk⟩ := runQX_chain l (k + 1) _ hops' (hnx.put o.dst v) (Csts.put (s := ({ s with σ := u.app s.σ (s.lv, s.nx) } : ASt).next u.isNew) hcst hf0 v) hf1 h
        let d : Awp.D := ⟨true, v, ro, wi, wo, (s.lv, s.nx), u.isNew⟩
        refine ⟨sN, _, .cons (d := d) ho ⟨hd, hgf, fun _ => by rw [lkF_toMS]; exact q1, (by intro h; cases h), q2, q3⟩ (toMS_put s o d (({ s with σ := u.app s.σ (s.lv, s.nx) } : ASt).next u.isNew) rfl q4) (hp.2.2.1.trans rfl) (hp.1.trans rfl) ?_ rfl ?_ q7 q8 hc, hk⟩
        · rw [hp.2.2.2]
          show s.nx ≤ if u.isNew = true then s.nx + 1 else s.nx
          split <;> omega
        · intro hu
          have hu : u.isNew = true := hu
          rw [hp.2.2.2]
          show s.nx < if u.isNew = true then s.nx + 1 else s.nx
          rw [if_pos hu]; omega
      unfold stepS at h
      split at h
      · rename_i c hc
        split at h
        · rename_i f hf
          obtain ⟨hd, fn, cap, args, hfv, hvs, args', v, ids, hp, hz, hfl, h⟩ := h
          have hpd := putD_lv ({ s with σ := s.σ } : ASt) o.dst v
          obtain ⟨sN, D, hch, hk⟩ := runQX_chain l (k + 1) _ hops' (Neat.put (s := { s with σ := s.σ }) hn o.dst v) (Csts.put (s := { s with σ := s.σ }) hcst hf0 v) hf1 h
          let d : Awp.D := ⟨true, v, Store.only s.σ ids, [], [], (s.lv, s.nx), false⟩
          refine ⟨sN, _, .cons (d := d) ho ⟨hd, hgf, fun _ => ?_, (by intro h; cases h), fun x hx => ?_, ?_⟩ (toMS_put s o d { s with σ := s.σ } rfl fun x => by simp [d, Store.keys]) hpd.2.2.1 hpd.1 (Nat.le_of_eq hpd.2.2.2.symm) rfl (by intro h; cases h) (fun hi => ?_) (fun _ => ⟨rfl, rfl⟩) hch, hk⟩
          · rw [lkF_toMS]
            simp only [d, List.append_nil]
            exact LT.call hc hf hfv hvs hp hz hfl
          · have hx : x ∈ Store.only s.σ ids := by simpa [d] using hx
            exact (only_mem.1 hx).1
          · simpa [d] using only_nodup hn.nodup ids
          · rw [hc] at hi; simp [idleX, idleOp] at hi
        · exact plain h
      · rw [if_neg (by simp)] at h
        exact plain h
      · exact plain h
/-- What is asked of a statement that draws its order: two of its operations that may stand either way have nothing to do with one another. -/
def regFullX (cst : List Tmp) (ops : List Oper) : Bool :=
  let P := predAcc ops []
  regOk ops && (ops.all fun o => dstFree cst o.dst) && ops.zipIdx.all fun (o, i) => ops.zipIdx.all fun (o', i') => decide (i ≤ i') || (P.getD i []).contains i' || ((!writerOp o'.op || idleX cst o.op) && (!writerOp o.op || idleX cst o'.op))

theorem aw_regionX {id : Nat} {K : AExit → ASt → Prop} {s : ASt} {X : V → ASt → Prop} (hreg : regFullX cst ops.toList = true) (hcst : Csts cst s) (h : runS C true ops ops.toList s (K .normal) X) : AW C (.region id ops true) K s := fun E a hr => by
  unfold regFullX at hreg
  simp only [Bool.and_eq_true] at hreg
  obtain ⟨⟨hok, hfree⟩, hpairs⟩ := hreg
  have hR := regOk_spec hok
  rw [Array.toArray_toList] at hR
  have hneat : Neat s := ⟨hr.store.nodup, fun k hk hm => by
    obtain ⟨b, _, hb⟩ := hr.store.mem hm
    exact hb.born (hr.own k hk)⟩
  obtain ⟨sN, D, hc, hk⟩ := runQX_chain (C := C) (ops := ops) ops.toList 0 s (fun j => by simp) hneat hcst (fun o ho => (List.all_eq_true.1 hfree) o ho) h
  rw [Array.length_toList] at hc
  have get : ∀ {i : Nat} {o : Oper}, ops[i]? = some o → (o, i) ∈ ops.toList.zipIdx := fun {i o} hi => by
    refine List.mem_zipIdx_iff_getElem?.2 ?_
    simpa using hi
  have pair : ∀ i i' o o', i' < i → ops[i]? = some o → ops[i']? = some o' → i' ∉ (predAcc ops.toList []).getD i [] → (writerOp o'.op = false ∨ idleX cst o.op = true) ∧ (writerOp o.op = false ∨ idleX cst o'.op = true) := fun i i' o o' hlt ho ho' hn => by
    have h1 := List.all_eq_true.1 hpairs _ (get ho)
    have h2 := List.all_eq_true.1 h1 _ (get ho')
    simp only [Bool.or_eq_true, decide_eq_true_eq, List.contains_iff_mem, Bool.and_eq_true, Bool.not_eq_true'] at h2
    rcases h2 with (h2 | h2) | h2
    · omega
    · exact absurd h2 hn
    · exact h2
  have opAt : ∀ i, i < ops.size → ∃ o, ops[i]? = some o := fun i hi => ⟨_, Array.getElem?_eq_getElem hi⟩
  have hD : DataOk (fun i => (predAcc ops.toList []).getD i []) s.lv D ops.size := by
    refine ⟨fun i i' hlt hi hn id hid => ?_, fun i i' hlt hi hn id hid => ?_, fun i i' hi hi' hne hw hw' e => ?_, fun i _ => hc.j1 i⟩
    · obtain ⟨o, ho⟩ := opAt i hi
      obtain ⟨o', ho'⟩ := opAt i' (by omega)
      rcases (pair i i' o o' hlt ho ho' hn).1 with hq | hq
      · obtain ⟨e1, e2⟩ := hc.reads i' o' (Nat.zero_le _) (by omega) ho' hq
        rw [e1, e2] at hid; simp [Store.keys] at hid
      · obtain ⟨e1, e2, e3⟩ := hc.idle i o (Nat.zero_le _) (by omega) ho hq
        rw [e1, e2, e3]; simp [Store.keys]
    · obtain ⟨o, ho⟩ := opAt i hi
      obtain ⟨o', ho'⟩ := opAt i' (by omega)
      rcases (pair i i' o o' hlt ho ho' hn).2 with hq | hq
      · obtain ⟨e1, e2⟩ := hc.reads i o (Nat.zero_le _) (by omega) ho hq
        rw [e1, e2] at hid; simp [Store.keys] at hid
      · obtain ⟨e1, e2, e3⟩ := hc.idle i' o' (Nat.zero_le _) (by omega) ho' hq
        rw [e1]; simp [Store.keys]
    · rcases Nat.lt_or_gt_of_ne hne with hlt | hlt
      · have := hc.j4 i i' (Nat.zero_le _) hlt hw (by omega) (by omega)
        rw [e] at this; omega
      · have := hc.j4 i' i (Nat.zero_le _) hlt hw' (by omega) (by omega)
        rw [e] at this; omega
  refine wp_region_any C.mixed ?_
  have hrm : RelM C s.n s.lv (toMS s) E.bump a := ⟨fun t v hv => (hr.tmp t v hv).mono bump_le, hr.size, ⟨s.σ, bump_store hr.store, fun x => Iff.rfl⟩, hr.glob.mono bump_le⟩
  have hfin := any_sound (C := C) (ops := ops) (N := s.n) (lv := s.lv) hR hD (Q := fun e a' w' => ∃ E' ae s', Post C K s E a e a' w' E' ae s') (List.range' 0 ops.size) (Array.replicate ops.size false) (toMS s) E.bump a ?_ (by simp) ?_ ?_ hrm hc.en ?_ ?_
  · rw [List.length_range'] at hfin
    exact hfin
  · intro i
    rw [List.mem_range'_1]
    constructor
    · intro hi
      have : i < ops.size := by omega
      exact ⟨this, by simp [this]⟩
    · rintro ⟨hi, _⟩; omega
  · exact List.pairwise_lt_range'
  · intro i hi hli
    simp [hi] at hli
  · intro i hi hw hnw
    have hj1 := hc.j1 i
    have hj2 := hc.j2 i (Nat.zero_le _)
    have : (D i).j = (s.lv, (D i).j.2) := by rw [← hj1]
    rw [this]
    exact hr.own _ hj2
  · intro E' a' hrm' hg hd hb
    rw [hc.app] at hrm' hg
    obtain ⟨σ', hst', hmem'⟩ := hrm'.store
    have hrel : Rel C sN E' a' := by
      refine ⟨hrm'.tmp, by rw [hc.n]; exact hrm'.size, hst'.part (fun x hx => (hmem' x).2 hx) hc.neat.nodup, fun k hk => ?_, hrm'.glob⟩
      rw [hc.lv]
      refine hb (s.lv, k) (Nat.le_refl _) (fun i hi hnw e => ?_) (hr.own k (Nat.le_trans hc.nx hk))
      have hi' := (List.mem_range'_1.1 hi).2
      have := hc.j3 i (Nat.zero_le _) hi' hnw
      rw [← e] at this
      simp only at this; omega
    refine ⟨E', .normal, sN, rfl, .normal, hk, hrel, bump_grow.trans (hg s.σ sN.σ (fun _ => Iff.rfl) (fun _ => Iff.rfl)), hd, hc.lv, fun id hi hu => hb id (by omega) (fun i _ _ e => ?_) hu⟩
    have := hc.j1 i
    rw [← e] at this; omega

theorem wait_regionX {K : AExit → ASt → Prop} {st : List Fr} {id : Nat} {l : List Oper} {s : ASt} (cst : List Tmp) (hreg : regFullX cst l = true) (hcst : Csts cst s) (h : go C 1000000 (.ops l.toArray l) (.draw :: st) K s) : Wait C (.region id l.toArray true) st K s := fun _ hst => by
  refine aw_regionX (cst := cst) (X := fun v => unst C (.draw :: st) K (.panic v)) hreg hcst ?_
  exact go_sound 1000000 (.ops l.toArray l) (.draw :: st) K s (fun c e => by cases e) hst h
end
end Go.Awp

/- RaceSwaps: walked. -/
namespace Go.Awp.R1
open Go Go.Awp Go.Proofs Go.Awp.B

/-- The same program; statement 10 is looked at by hand. -/
noncomputable def TCe : Ctx := { TC with ex := [10] }
@[simp] theorem TCeP : TCe.P = TC.P := rfl
@[simp] theorem TCeex : TCe.ex = [10] := rfl
@[simp] theorem TCeown : TCe.own = [] := rfl
theorem toE {f : FuncId} {args : List V} {v : V} (h : APure TC f args v) : APure TCe f args v := AFn.ctx (C := TC) rfl rfl h

set_option maxRecDepth 100000 in
theorem RaceSwaps_ok (l : List EE) (last : Int) (hl : short l) (ht : ∀ e ∈ l, e.t ≤ 255) (hlast : 0 ≤ last ∧ last ≤ 255) : APure TC 11 [.slice (l.map encEE), .int .u8 last] (.bool true) := by
  refine AFn.ctx (C := TCe) rfl rfl ?_
  refine afn_enter Try.func11 rfl rfl rfl (by decide) (Nat.le_of_ble_eq_true rfl) (by kernel_rfl) fun L K hL hR hN hP => ?_
  simp -implicitDefEqProofs
  refine CallF.pure (toE Awake13_ok) (by decide) ?_
  simp -implicitDefEqProofs
  refine CallF.pure (toE (Light_ok l 20 hl)) (by decide) ?_
  have yes : ∀ s : ASt, resAll TCe.P s [.tmp 4] = some [.bool true] → K .ret s := fun s hs => hR _ (.pure hs (.refl _))
  rcases hlt : lightP l 20 <;> simp -implicitDefEqProofs
  · exact yes _ rfl
  have h := lit_of (n := 20) hlt (by decide) ht
  rcases h2 : decide ((l.length : Int) < 2) <;> simp -implicitDefEqProofs [h2]
  case true => exact yes _ rfl
  have hf := h.few
  have hthr := h.thr
  have hlen : (eventsP l).length = l.length := by unfold eventsP; simp -implicitDefEqProofs
  have hl2 : 2 ≤ l.length := by simp -implicitDefEqProofs at h2; omega
  have hl20 : l.length ≤ 20 := h.len
  refine CallF.pure (toE h.evs_ok) (by decide) ?_
  generalize eventsP l = x at *
  obtain ⟨ln, hln⟩ : ∃ ln : Nat, last = ln := ⟨last.toNat, by omega⟩
  subst hln
  have w1 : IntKind.i64.wrap ((x.length : Int) - 1) = ((x.length - 1 : Nat) : Int) := by rw [wrap_i64] <;> omega
  have hrem : Int.tmod (ln : Int) ((x.length - 1 : Nat) : Int) = ((ln % (x.length - 1) : Nat) : Int) := by rw [Int.tmod_eq_emod_of_nonneg (by omega)]; rfl
  have hk : ln % (x.length - 1) < x.length - 1 := Nat.mod_lt _ (by omega)
  have hx1 : ¬ x.length - 1 = 0 := by omega
  generalize ln % (x.length - 1) = k at hrem hk
  have q0 : k < x.length := by omega
  have q1 : k + 1 < x.length := by omega
  simp -implicitDefEqProofs [w1, wrN ln (by omega), hrem, hx1, at_get q0, at_get q1, wr1 k (by omega)]
  refine CallF.pure (toE (Depend_ok (at' x k) (at' x (k + 1)) (hf.at q0) (hf.at q1))) (by decide) ?_
  rcases hd : depend (at' x k) (at' x (k + 1)) <;> simp -implicitDefEqProofs
  case true => exact yes _ rfl
  refine CallF.made (AFn.ctx (C := TC) rfl rfl (Clone_ok x hf.len)) (by decide) rfl ?_
  intro L' k' ver h1' h2'
  have n1 : L ≠ L' := by omega
  simp -implicitDefEqProofs [n1, n1.symm]
  refine wait_turn (turn_frz (τ' := [(5, .slice (x.map encE)), (6, .rptr (encI k)), (7, .vec (L', k') ver)]) (σ' := [((L', k'), .vec 38 2 (x.map encE) ver true)]) [((L, 0), .cells 3 [encI k])] [((L', k'), .vec 38 2 (x.map encE) ver true)]
    (by simp -implicitDefEqProofs; exact .cell (t := 3) (c := encI k) (by simp -implicitDefEqProofs) (.refl _)) (by simp -implicitDefEqProofs) (by simp -implicitDefEqProofs) (by simp -implicitDefEqProofs) (by simp -implicitDefEqProofs [n1, n1.symm]) (.refl _)) ?_
  refine wait_regionX [6] (by kernel_rfl) (fun t hx => ⟨encI k, by simp -implicitDefEqProofs at hx; subst hx; simp -implicitDefEqProofs⟩) ?_
  have g0 : x[k] = at' x k := (at_eq q0).symm
  have g1 : x[k + 1] = at' x (k + 1) := (at_eq q1).symm
  have hz : exch x k = (x.set k (at' x (k + 1))).set (k + 1) (at' x k) := rfl
  have hzf : Few (exch x k) := ⟨by rw [exch_length]; exact hf.len, fun e he => hf.m e (exch_mem q1 e he)⟩
  have hzt : Thr (exch x k) := fun e he => hthr e (exch_mem q1 e he)
  have hzm : ((x.map encE).set k (encE (at' x (k + 1)))).set (k + 1) (encE (at' x k)) = (exch x k).map encE := by rw [hz]; simp only [List.map_set]
  have hsw := swd_exch q1 hd
  have hle := hsw.len_eq hthr hzt
  have hmem := fun r => hsw.mem hthr hzt (r := r)
  generalize exch x k = z at *
  simp only [encE] at hzm
  simp -implicitDefEqProofs [wr1 k (by omega), q0, q1, g0, g1, hzm]
  refine CallF.pure (toE (RaceAllP_ok x hf hthr)) (by decide) ?_
  have hrl := racesP_len hf
  have hrz := racesP_len hzf
  have hsh := fun r (hr : r ∈ racesP x) => races_shape hr
  simp -implicitDefEqProofs
  refine CallF.frzP [((L', k'), .vec 38 2 (z.map encE) ver true)] (toE (RaceAllP_ok z hzf hzt)) (.cons (.vec (t := 38) (s := 2) (es := z.map encE) (wr := true) (by simp -implicitDefEqProofs) (frzL_refl _)) .nil) (by simp -implicitDefEqProofs) (by decide) rfl ?_
  generalize racesP x = rx at *
  generalize racesP z = rz at *
  simp -implicitDefEqProofs [Store.less, hle, int_bne]
  refine loopJ (α := Nat) (fun j => j ≤ rx.length)
    (fun j => [(8, .func (.func 41) [] [.rptr (encI k)]), (10, .slice (rz.map encC)), (69, .slice (rx.map encC)), (70, .int .i64 rx.length), (71, .int .i64 j)])
    (fun _ => []) (fun j => rx.length - j) 0 (by simp -implicitDefEqProofs) (turn_weak (by simp -implicitDefEqProofs [hle]) (by simp -implicitDefEqProofs) (by simp -implicitDefEqProofs)) ?_
  rintro j L1 K1 hj hL1 - hnext hex hrt - -
  simp -implicitDefEqProofs
  refine CondC.mk (fun hb => ?_) (fun hb => ?_)
  · have hjl : j < rx.length := by simpa using hb
    have hxj : rx[j]? = some rx[j] := List.getElem?_eq_getElem hjl
    have hr := hmem rx[j] (List.getElem_mem _)
    obtain ⟨a, b, he, hab, hbl⟩ := hsh rx[j] (List.getElem_mem _)
    rw [he] at hxj hr
    rw [turnI_nat, turnI_nat] at hr
    have hc := ContC_ok rz ⟨turnN k a, turnN k b⟩ (by show _ ≤ _; omega)
    rw [List.contains_iff_mem.2 hr] at hc
    simp -implicitDefEqProofs [hxj]
    refine CallF.pure (toE (SwapsF1_ok a k (by omega))) (by decide) ?_
    simp -implicitDefEqProofs
    refine CallF.pure (toE (SwapsF1_ok b k (by omega))) (by decide) ?_
    simp -implicitDefEqProofs
    refine CallF.pure (toE hc) (by decide) ?_
    simp -implicitDefEqProofs [wr1 j (by omega)]
    exact hnext _ (j + 1) (by omega) (by omega) (turn_weak (by simp -implicitDefEqProofs) (by simp -implicitDefEqProofs) (by simp -implicitDefEqProofs))
  · refine hex _ _ ?_
    simp -implicitDefEqProofs
    exact yes _ rfl
end Go.Awp.R1

/- What the last statement of the round needs. -/
