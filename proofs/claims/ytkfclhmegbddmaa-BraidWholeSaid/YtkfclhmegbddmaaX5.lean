/- BraidPairs: walked. -/
import Derived.Test.YtkfclhmegbddmaaX4
import Derived.Test.YtkfclhmegbddmaaX3
set_option linter.all false
namespace Go.Awp.R1
open Go Go.Awp Go.Proofs Go.Awp.B

def pairB (x y : List Ev) (a b : Ev) : Bool := !(depend a b && !decide (onlyP x a b = onlyP y a b))
theorem pairs_iff {x y : List Ev} (h : y.Perm x) : (x.all fun a => x.all (pairB x y a)) = decide (formP x = formP y) := by
  rw [Bool.eq_iff_iff]
  simp only [List.all_eq_true, decide_eq_true_eq]
  rw [form_iff]
  constructor
  · intro hh
    refine pairs_eqv x y h.symm fun a ha b hb hd => ?_
    have := hh a ha b hb
    simpa [pairB, hd] using this
  · intro hq a _ b _
    cases hd : depend a b with
    | false => simp -implicitDefEqProofs [pairB, hd]
    | true => simp -implicitDefEqProofs [pairB, hd, eqv_only hq hd]

set_option maxRecDepth 100000 in
theorem BraidPairs_ok (l : List EE) (order : List Nat) (hl : short l) (ht : ∀ e ∈ l, e.t ≤ 255) (ho : short order) (hot : ∀ k ∈ order, k ≤ 255) :
    APure TC 7 [.slice (l.map encEE), .slice (order.map encB)] (.bool true) := by
  refine afn_enter Try.func7 rfl rfl rfl (by decide) (Nat.le_of_ble_eq_true rfl) (by kernel_rfl) fun L K hL hR hN hP => ?_
  simp -implicitDefEqProofs
  refine CallF.pure Awake12_ok (by decide) ?_
  simp -implicitDefEqProofs
  refine CallF.pure (Light_ok l 12 hl) (by decide) ?_
  rcases hlt : lightP l 12 <;> simp -implicitDefEqProofs
  · exact hR _ (.pure rfl (.refl _))
  have h := lit_of (n := 12) hlt (by decide) ht
  have hf := h.few
  have h12 := h.evs
  refine CallF.pure h.evs_ok (by decide) ?_
  generalize eventsP l = x at *
  simp -implicitDefEqProofs
  refine CallF.made (Clone_ok x hf.len) (by decide) rfl ?_
  intro L' k' ver h1 h2
  have n1 : L ≠ L' := by omega
  simp -implicitDefEqProofs [n1, n1.symm]
  refine wait_turn (turn_thaw (t := 7) (el := 38) (sz := 2) (by simp -implicitDefEqProofs) (by decide)) ?_
  refine loopJ (α := Nat × List Ev × List Ev × Nat) (fun y => y.1 ≤ x.length ∧ y.2.2.1.length = y.1 ∧ y.2.1.length + y.1 = x.length ∧ (y.2.1 ++ y.2.2.1).Perm x)
    (fun y => [(1, .slice (order.map encB)), (5, .slice (x.map encE)), (6, .vec (L', k') y.2.2.2), (7, .vec (L, 0) y.1), (26, .int .i64 x.length), (27, .int .i64 y.1)])
    (fun y => [((L, 0), .vec 38 2 (y.2.2.1.map encE) y.1 true), ((L', k'), .vec 38 2 (y.2.1.map encE) y.2.2.2 true)]) (fun y => x.length - y.1) (0, x, [], ver) ⟨by simp -implicitDefEqProofs, rfl, by simp -implicitDefEqProofs, by simp -implicitDefEqProofs⟩ (turn_weak (by simp -implicitDefEqProofs) (by simp -implicitDefEqProofs) (by simp -implicitDefEqProofs)) ?_
  rintro ⟨i, left, y, v⟩ L1 K1 ⟨hi, hyl, hll, hp⟩ hL1 hk1 hnext hex hrt - -
  simp -implicitDefEqProofs at hi hyl hll hp hL1 hk1
  have n2 : L ≠ L1 := hk1.1
  have n3 : L' ≠ L1 := hk1.2
  simp -implicitDefEqProofs
  refine CondC.mk (fun hb => ?_) (fun hb => ?_)
  · have hlt : i < x.length := by simpa using hb
    have hpos : 0 < left.length := by omega
    have c1 : i ≤ 9223372036854775806 := by omega
    have c2 : (i + 1) * 32 ≤ 140737488355328 := by omega
    -- what follows, once k is known
    have fin : ∀ k, k < left.length → ∀ τ', τ'.lookup 6 = some (.vsub (L', k') v 2 0 (left.length - 1)) → (∀ p, p ∈ [((1 : Nat), V.slice (order.map encB)), (5, .slice (x.map encE)), (7, .vec (L, 0) (i + 1)), (26, .int .i64 x.length), (27, .int .i64 (i + 1 : Nat))] → τ'.lookup p.1 = some p.2) →
        K1 .normal ⟨τ', [((L', k'), .vec 38 2 ((left.eraseIdx k).map encE ++ [.agg [.int .i64 0, .snil]]) v true), ((L, 0), .vec 38 2 ((y ++ [left.getD k default]).map encE) (i + 1) true)], 90, L1, 0⟩ := by
      intro k hk τ' h6 hτ
      have hel : (left.eraseIdx k).length = left.length - 1 := List.length_eraseIdx_of_lt hk
      have hgd : left.getD k default = left[k] := by rw [List.getD_eq_getElem?_getD, List.getElem?_eq_getElem hk]; rfl
      refine hnext ⟨τ', _, 90, L1, 0⟩ (i + 1, left.eraseIdx k, y ++ [left.getD k default], v + 1) ⟨by simp -implicitDefEqProofs; omega, by simp -implicitDefEqProofs; omega, by show (left.eraseIdx k).length + (i + 1) = x.length; omega, by rw [hgd]; exact pick_perm hp hk⟩ (by show x.length - (i + 1) < x.length - i; omega) ?_
      refine (turn_cut (t := 6) (id := L') (j := k') (ver := v) (z := 2) (el := 38) (len := left.length - 1) (es := (left.eraseIdx k).map encE ++ [.agg [.int .i64 0, .snil]]) h6 (by simp -implicitDefEqProofs) (by simp -implicitDefEqProofs; omega)).trans (turn_weak ?_ (by simp -implicitDefEqProofs [n1, n1.symm, hel]) (by simp -implicitDefEqProofs [n1, n1.symm]))
      intro p hp
      have : p = (6, .vec (L', k') (v + 1)) ∨ p ∈ [((1 : Nat), V.slice (order.map encB)), (5, .slice (x.map encE)), (7, .vec (L, 0) (i + 1)), (26, .int .i64 x.length), (27, .int .i64 (i + 1 : Nat))] := by
        simp -implicitDefEqProofs at hp ⊢; rcases hp with h | h | h | h | h | h <;> simp -implicitDefEqProofs [h]
      rcases this with rfl | hp'
      · simp -implicitDefEqProofs
      · have h1 := hτ p hp'
        have : p.1 ≠ 6 := by simp -implicitDefEqProofs at hp'; rcases hp' with h | h | h | h | h <;> simp -implicitDefEqProofs [h]
        have hb : (p.1 == 6) = false := by simpa using this
        simp -implicitDefEqProofs [List.lookup_cons, hb, h1]
    by_cases hio : i < order.length
    · have hv := hot _ (List.getElem_mem hio)
      generalize hx : order[i] = u at hv
      have hrem : Int.tmod (u : Int) ((min left.length 2 : Nat) : Int) = ((u % min left.length 2 : Nat) : Int) := by rw [Int.tmod_eq_emod_of_nonneg (by omega)]; rfl
      have hk0 : u % min left.length 2 < min left.length 2 := Nat.mod_lt _ (by omega)
      have hk : u % min left.length 2 < left.length := by omega
      have hmn : (if (2 : Int) < (left.length : Int) then (2 : Int) else left.length) = ((min left.length 2 : Nat) : Int) := by split <;> omega
      have hm0 : ¬ ((min left.length 2 : Nat) : Int) = 0 := by omega
      have hl0 : ¬ left.length = 0 := by omega
      have hl0' : ¬ left = [] := by intro e; subst e; simp -implicitDefEqProofs at hl0
      generalize u % min left.length 2 = k at hrem hk hk0
      have hgd : left.getD k default = left[k] := by rw [List.getD_eq_getElem?_getD, List.getElem?_eq_getElem hk]; rfl
      have f1 := fin k hk
      rw [hgd] at f1
      simp -implicitDefEqProofs [hio, hx, wrN u (by omega), hrem, hl0', hmn, hm0, hk, n1, n1.symm, n2, n2.symm, n3, n3.symm, hyl, c1, c2, wr1 k (by omega)]
      refine CallF.gen (DelEv_ok (L', k') v left k (by have := hf.len; omega) hk) (by simp -implicitDefEqProofs [n1, n1.symm]) (by simp -implicitDefEqProofs) (by decide) rfl ?_ ?_
      · rintro L'' w σ' q1 q2 ⟨e, rfl⟩
        cases e
        simp -implicitDefEqProofs [Store.less, n1, n1.symm, wr1 i (by omega)]
        simpa using f1 _ (by simp -implicitDefEqProofs) (by simp -implicitDefEqProofs)
      · rintro L'' w σ' q1 q2 ⟨e, rfl⟩
        cases e
    · have hgd : left.getD 0 default = left[0] := by rw [List.getD_eq_getElem?_getD, List.getElem?_eq_getElem hpos]; rfl
      have f1 := fin 0 hpos
      rw [hgd] at f1
      simp -implicitDefEqProofs [hio, hpos, n1, n1.symm, n2, n2.symm, n3, n3.symm, hyl, c1, c2]
      refine CallF.gen (DelEv_ok (L', k') v left 0 (by have := hf.len; omega) hpos) (by simp -implicitDefEqProofs [n1, n1.symm]) (by simp -implicitDefEqProofs) (by decide) rfl ?_ ?_
      · rintro L'' w σ' q1 q2 ⟨e, rfl⟩
        cases e
        simp -implicitDefEqProofs [Store.less, n1, n1.symm, wr1 i (by omega)]
        simpa using f1 _ (by simp -implicitDefEqProofs) (by simp -implicitDefEqProofs)
      · rintro L'' w σ' q1 q2 ⟨e, rfl⟩
        cases e
  refine hex _ _ ?_
  have hin : ¬ i < x.length := by simpa using hb
  have hl0 : left = [] := List.eq_nil_of_length_eq_zero (by omega)
  subst hl0
  simp -implicitDefEqProofs at hp
  have hyf := perm_few hf hp
  have hpi := pairs_iff hp
  have s1 := SameP_ok x y hf hyf
  have e1 : sameP x y = decide (formP x = formP y) := rfl
  rw [e1, ← hpi] at s1
  simp -implicitDefEqProofs
  refine loopJ (α := Nat × Bool) (fun z => z.1 ≤ x.length ∧ z.2 = (x.take z.1).all fun a => x.all (pairB x y a))
    (fun z => [(5, .slice (x.map encE)), (7, .slice (y.map encE)), (10, .bool z.2), (56, .slice (x.map encE)), (57, .int .i64 x.length), (58, .int .i64 z.1)])
    (fun _ => []) (fun z => x.length - z.1) (0, true) (by simp -implicitDefEqProofs)
    (turn_frz [((L, 0), .vec 38 2 (y.map encE) i true)] [] (by simp -implicitDefEqProofs; exact .vec (t := 38) (s := 2) (es := y.map encE) (wr := true) (by simp -implicitDefEqProofs) (frzL_refl _)) (by simp -implicitDefEqProofs) (by simp -implicitDefEqProofs) (by simp -implicitDefEqProofs) (by simp -implicitDefEqProofs) .nil) ?_
  rintro ⟨p, w⟩ L2 K2 ⟨hp1, hw⟩ hL2 - hnext2 hex2 hrt2 - -
  simp -implicitDefEqProofs at hp1 hw hL2
  simp -implicitDefEqProofs
  refine CondC.mk (fun hb => ?_) (fun hb => ?_)
  · have hlt : p < x.length := by simpa using hb
    have has := all_take_succ (fun a => x.all (pairB x y a)) hlt
    rw [← hw] at has
    have hxa : x[p]? = some x[p] := List.getElem?_eq_getElem hlt
    have hma := hf.m _ (List.getElem_mem hlt)
    generalize x[p] = a at has hxa hma
    simp -implicitDefEqProofs [hxa]
    refine loopJ (α := Nat × Bool) (fun z => z.1 ≤ x.length ∧ z.2 = (w && (x.take z.1).all (pairB x y a)))
      (fun z => [(5, .slice (x.map encE)), (7, .slice (y.map encE)), (10, .bool z.2), (12, .ptr (L2, 0) 0), (56, .slice (x.map encE)), (57, .int .i64 x.length), (58, .int .i64 p), (62, .slice (x.map encE)), (63, .int .i64 x.length), (64, .int .i64 z.1)])
      (fun _ => [((L2, 0), .cells 38 (encE a).cells)]) (fun z => x.length - z.1) (0, w) (by simp -implicitDefEqProofs) (turn_weak (by simp -implicitDefEqProofs) (by simp -implicitDefEqProofs) (by simp -implicitDefEqProofs)) ?_
    rintro ⟨q, w'⟩ L3 K3 ⟨hq1, hw'⟩ hL3 - hnext3 hex3 hrt3 - -
    simp -implicitDefEqProofs at hq1 hw' hL3
    have n3 : L2 ≠ L3 := by omega
    simp -implicitDefEqProofs
    refine CondC.mk (fun hb => ?_) (fun hb => ?_)
    · have hlt : q < x.length := by simpa using hb
      have has2 := all_take_succ (pairB x y a) hlt
      have hxb : x[q]? = some x[q] := List.getElem?_eq_getElem hlt
      have hmb := hf.m _ (List.getElem_mem hlt)
      generalize x[q] = b at has2 hxb hmb
      have o1 := Only_ok x a b hf (by show _ ≤ _; omega) (by show _ ≤ _; omega)
      have o2 := Only_ok y a b hyf (by show _ ≤ _; omega) (by show _ ≤ _; omega)
      have o3 := Equal_ok _ _ (few_only hf a b) (few_only hyf a b)
      simp -implicitDefEqProofs [hxb, n3, n3.symm]
      refine CallF.pure (Depend_ok a b (by omega) (by omega)) (by decide) ?_
      have nx : ∀ w2, w2 = (w' && pairB x y a b) → w2 = (w && (x.take (q + 1)).all (pairB x y a)) := fun w2 e => by rw [has2, e, hw']; cases w <;> simp -implicitDefEqProofs
      rcases hd : depend a b <;> simp -implicitDefEqProofs [n3, n3.symm, wr1 q (by omega)]
      · exact hnext3 _ (q + 1, w') ⟨by simp -implicitDefEqProofs; omega, nx _ (by simp -implicitDefEqProofs [pairB, hd])⟩ (by simp -implicitDefEqProofs; omega) (turn_weak (by simp -implicitDefEqProofs) (by simp -implicitDefEqProofs) (by simp -implicitDefEqProofs))
      · refine CallF.pure o1 (by decide) ?_
        simp -implicitDefEqProofs [n3, n3.symm]
        refine CallF.pure o2 (by decide) ?_
        simp -implicitDefEqProofs
        refine CallF.pure o3 (by decide) ?_
        rcases heq : decide (onlyP x a b = onlyP y a b) <;> simp -implicitDefEqProofs [wr1 q (by omega)]
        · exact hnext3 _ (q + 1, false) ⟨by simp -implicitDefEqProofs; omega, nx _ (by simp -implicitDefEqProofs [pairB, hd, heq])⟩ (by simp -implicitDefEqProofs; omega) (turn_weak (by simp -implicitDefEqProofs) (by simp -implicitDefEqProofs) (by simp -implicitDefEqProofs))
        · exact hnext3 _ (q + 1, w') ⟨by simp -implicitDefEqProofs; omega, nx _ (by simp -implicitDefEqProofs [pairB, hd, heq])⟩ (by simp -implicitDefEqProofs; omega) (turn_weak (by simp -implicitDefEqProofs) (by simp -implicitDefEqProofs) (by simp -implicitDefEqProofs))
    · refine hex3 _ _ ?_
      have hqn : ¬ q < x.length := by simpa using hb
      rw [List.take_of_length_le (by omega)] at hw'
      simp -implicitDefEqProofs [wr1 p (by omega)]
      exact hnext2 _ (p + 1, w') ⟨by simp -implicitDefEqProofs; omega, by rw [has]; exact hw'⟩ (by simp -implicitDefEqProofs; omega) (turn_weak (by simp -implicitDefEqProofs) (by simp -implicitDefEqProofs) (by simp -implicitDefEqProofs))
  · refine hex2 _ _ ?_
    have hpn : ¬ p < x.length := by simpa using hb
    rw [List.take_of_length_le (by omega)] at hw
    subst hw
    simp -implicitDefEqProofs
    refine CallF.pure s1 (by decide) ?_
    simp -implicitDefEqProofs
    exact hR _ (.pure rfl (.refl _))
end Go.Awp.R1

/- Arguments of the statements on events. -/
namespace Go.Awp.R1
open Go Go.Awp Go.Proofs Go.Awp.B

set_option maxRecDepth 100000 in
theorem ee_arg {H : Type} {enc : TypeId × Value → H} {w : World} {base : Nat} {spare : Nat → Bool} {held : Bool} {v : Value} {q : DataW H} {ps : List MemPlace}
    (ht : DataW.Trod enc Try.prog w base spare held 22 v q ps) (hv : ∃ a len cap, v = .slice a len cap) :
    ∃ l : List EE, Rep (Amb.start w) (.slice (l.map encEE)) v ∧ short l ∧ ∀ e ∈ l, e.t ≤ 255 := by
  obtain ⟨css, h1, h2, h3⟩ := slice_arg (d := 5) Try.underlying22 (by kernel_rfl) ht hv
  have key : ∀ cs ∈ css, ∃ e : EE, cs = (encEE e).cells ∧ e.t ≤ 255 := by
    intro cs hc
    have h4 := h3 cs hc
    unfold Sh at h4
    rw [Try.underlying69] at h4
    obtain ⟨ys, zs, rfl, hy1, hy2, us, ws, rfl, hu1, hu2, rfl⟩ := h4
    unfold Sh at hy2 hu2
    rw [Try.underlying5] at hy2
    rw [Try.underlying67] at hu2
    obtain ⟨n, rfl, hn⟩ := hy2
    obtain ⟨tss, rfl, _, hts⟩ := hu2
    have key2 : ∀ cs ∈ tss, ∃ e : Tch, cs = (encT e).cells ∧ True := by
      intro cs hc
      have h4 := hts cs hc
      unfold Sh at h4
      rw [Try.underlying92] at h4
      obtain ⟨ys, zs, rfl, hy1, hy2, us, ws, rfl, hu1, hu2, rfl⟩ := h4
      unfold Sh at hy2 hu2
      rw [Try.underlying90] at hy2
      rw [Try.underlying4] at hu2
      obtain ⟨m, rfl, _⟩ := hy2
      obtain ⟨b, rfl⟩ := hu2
      exact ⟨⟨m, b⟩, rfl, trivial⟩
    obtain ⟨ts, rfl, _⟩ := choose_map key2
    have hn2 : 0 ≤ n ∧ n ≤ 255 := by simpa [Lit.wf, IntKind.min, IntKind.max, IntKind.signed, IntKind.bits] using hn
    refine ⟨⟨n.toNat, ts⟩, ?_, by show n.toNat ≤ 255; omega⟩
    have e1 : ((n.toNat : Nat) : Int) = n := by omega
    simp -implicitDefEqProofs [encEE, e1]
    intro a _
    simp -implicitDefEqProofs [vOf, Try.underlying92, encT]
  obtain ⟨l, rfl, hl⟩ := choose_map key
  refine ⟨l, ?_, by simp -implicitDefEqProofs at h2; have : maxLen ≤ 9223372036854775807 := by decide
                    show _ ≤ _; omega, hl⟩
  rw [List.map_map] at h1
  have : (vOf Try.prog 69) ∘ (fun e : EE => (encEE e).cells) = encEE := by
    funext e
    simp -implicitDefEqProofs [vOf, Try.underlying69, encEE]
  rwa [show (vOf Try.prog 69) ∘ (fun e : EE => (encEE e).cells) = encEE from this] at h1

theorem u8_wf {n : Int} (h : (Lit.int .u8 n).wf = true) : 0 ≤ n ∧ n ≤ 255 := by simpa [Lit.wf, IntKind.min, IntKind.max, IntKind.signed, IntKind.bits] using h

set_option maxRecDepth 100000 in
theorem bytes_arg {H : Type} {enc : TypeId × Value → H} {w : World} {base : Nat} {spare : Nat → Bool} {held : Bool} {v : Value} {q : DataW H} {ps : List MemPlace}
    (ht : DataW.Trod enc Try.prog w base spare held 42 v q ps) (hv : ∃ a len cap, v = .slice a len cap) :
    ∃ l : List Nat, Rep (Amb.start w) (.slice (l.map encB)) v ∧ short l ∧ ∀ k ∈ l, k ≤ 255 := by
  obtain ⟨css, h1, h2, h3⟩ := slice_arg (d := 5) Try.underlying42 (by kernel_rfl) ht hv
  have key : ∀ cs ∈ css, ∃ e : Nat, cs = (encB e).cells ∧ e ≤ 255 := by
    intro cs hc
    have h4 := h3 cs hc
    unfold Sh at h4
    rw [Try.underlying5] at h4
    obtain ⟨n, rfl, hn⟩ := h4
    have hn2 := u8_wf hn
    have e1 : ((n.toNat : Nat) : Int) = n := by omega
    exact ⟨n.toNat, by simp -implicitDefEqProofs [encB, e1], by omega⟩
  obtain ⟨l, rfl, hl⟩ := choose_map key
  refine ⟨l, ?_, by simp -implicitDefEqProofs at h2; have : maxLen ≤ 9223372036854775807 := by decide
                    show _ ≤ _; omega, hl⟩
  rw [List.map_map] at h1
  have : (vOf Try.prog 5) ∘ (fun e : Nat => (encB e).cells) = encB := by
    funext e
    simp -implicitDefEqProofs [vOf, Try.underlying5, encB]
  rwa [this] at h1
end Go.Awp.R1
