/- Marks are sorted: in place. -/
import Derived.Test.YtkfclhmegbddmaaX3
set_option linter.all false
namespace Go.Awp.R1
open Go Go.Awp Go.Proofs Go.Awp.B

theorem sortRev_take_succ {es : List Mk} {i : Nat} (h : i < es.length) : sortRev (es.take (i + 1)) = insRev (sortRev (es.take i)) es[i] := by
  unfold sortRev
  rw [List.take_add_one, List.getElem?_eq_getElem h, List.foldl_append]; rfl
theorem sortRev_length (l : List Mk) : (sortRev l).length = l.length := by simp -implicitDefEqProofs [sortRev, foldl_insRev_length]

theorem cmpI_neg (a b : Int) : cmpI a b < 0 ↔ a < b := by unfold cmpI; split <;> (try split) <;> omega

theorem swap_down {A B T : List Mk} {x y : Mk} {j : Nat} (hj : A.length = j) : (((A ++ y :: x :: (B ++ T)).set (j + 1) y).set j x) = A ++ x :: y :: (B ++ T) := by
  subst hj
  simp -implicitDefEqProofs

theorem InsSort_ok (id : Id) (ver : Nat) (es : List Mk) (hl : short es) : AFn TC 70 [.vec id ver, .int .i64 0, .int .i64 es.length, .func (.func 62) [] []] [(id, .vec 77 2 (es.map encM) ver true)]
    (fun _ o σ' => o = .ret (.tup []) ∧ σ' = [(id, .vec 77 2 ((sortM es).map encM) ver true)]) := by
  refine afn_enter Try.func70 rfl rfl rfl (by decide) (Nat.le_of_ble_eq_true rfl) (by kernel_rfl) fun L K hL hR hN hP => ?_
  simp -implicitDefEqProofs
  refine loopJ (α := Nat × List Mk) (fun x => 1 ≤ x.1 ∧ x.2 = (sortRev (es.take x.1)).reverse ++ es.drop x.1)
    (fun x => [(0, .vec id ver), (1, .int .i64 0), (2, .int .i64 es.length), (3, .func (.func 62) [] []), (8, .int .i64 x.1)])
    (fun x => [(id, .vec 77 2 (x.2.map encM) ver true)]) (fun x => es.length - x.1) (1, es) ⟨Nat.le_refl _, ?_⟩ (turn_weak (by simp -implicitDefEqProofs) (by simp -implicitDefEqProofs) (by simp -implicitDefEqProofs)) ?_
  · cases es with
    | nil => rfl
    | cons x es => simp -implicitDefEqProofs [sortRev, insRev]
  rintro ⟨i, D⟩ L1 K1 ⟨hi, hD⟩ hL1 hk1 hnext hex hrt - -
  simp -implicitDefEqProofs at hD hi
  simp -implicitDefEqProofs
  refine CondC.mk (fun h => ?_) (fun h => ?_)
  · have hlt : i < es.length := by simpa using h
    have hlen : (sortRev (es.take i)).length = i := by rw [sortRev_length]; simp -implicitDefEqProofs; omega
    generalize hR' : sortRev (es.take i) = R at hD hlen
    have hdrop : es.drop i = es[i] :: es.drop (i + 1) := List.drop_eq_getElem_cons hlt
    simp -implicitDefEqProofs
    refine loopJ (α := Nat × List Mk) (fun x => x.1 ≤ i ∧ insRev R es[i] = R.take (i - x.1) ++ insRev (R.drop (i - x.1)) es[i] ∧ x.2 = (R.drop (i - x.1)).reverse ++ es[i] :: ((R.take (i - x.1)).reverse ++ es.drop (i + 1)))
      (fun x => [(0, .vec id ver), (1, .int .i64 0), (2, .int .i64 es.length), (3, .func (.func 62) [] []), (8, .int .i64 i), (9, .int .i64 x.1)])
      (fun x => [(id, .vec 77 2 (x.2.map encM) ver true)]) (fun x => x.1) (i, D) ⟨Nat.le_refl _, by simp -implicitDefEqProofs, by rw [hD, hdrop, Nat.sub_self]; rfl⟩ (turn_weak (by simp -implicitDefEqProofs) (by simp -implicitDefEqProofs) (by simp -implicitDefEqProofs)) ?_
    rintro ⟨j, D'⟩ L2 K2 ⟨hj, hins, hD'⟩ hL2 hk2 hnext2 hex2 hrt2 - -
    simp -implicitDefEqProofs at hD' hj hins
    have fin : insRev (R.drop (i - j)) es[i] = es[i] :: R.drop (i - j) → D' = (sortRev (es.take (i + 1))).reverse ++ es.drop (i + 1) := fun e => by
      rw [sortRev_take_succ hlt, hR', hins, e, hD']; simp -implicitDefEqProofs
    rcases hj0 : j with _ | j'
    · simp -implicitDefEqProofs
      refine hex2 _ _ ?_
      simp -implicitDefEqProofs [wr1 i (by omega)]
      refine hnext _ (i + 1, D') ⟨by simp -implicitDefEqProofs, ?_⟩ (by simp -implicitDefEqProofs; omega) (turn_weak (by simp -implicitDefEqProofs) (by simp -implicitDefEqProofs) (by simp -implicitDefEqProofs))
      subst hj0
      exact fin (by rw [List.drop_eq_nil_of_le (by omega)]; rfl)
    · subst hj0
      have hy : i - (j' + 1) < R.length := by omega
      generalize hyy : R[i - (j' + 1)] = y at *
      have hdr : R.drop (i - (j' + 1)) = y :: R.drop (i - j') := by rw [List.drop_eq_getElem_cons hy, hyy]; congr 2; omega
      have htk : R.take (i - j') = R.take (i - (j' + 1)) ++ [y] := by
        rw [show i - j' = (i - (j' + 1)) + 1 by omega, List.take_add_one, List.getElem?_eq_getElem hy, hyy]; rfl
      have hA : (R.drop (i - j')).reverse.length = j' := by simp -implicitDefEqProofs; omega
      generalize hAA : (R.drop (i - j')).reverse = A at *
      have hD2 : D' = A ++ y :: es[i] :: ((R.take (i - (j' + 1))).reverse ++ es.drop (i + 1)) := by
        rw [hD', hdr]; simp -implicitDefEqProofs [hAA]
      have g1 : D'[j' + 1]? = some es[i] := by rw [hD2, List.getElem?_append_right (by omega), hA]; simp -implicitDefEqProofs
      have g0 : D'[j']? = some y := by rw [hD2, List.getElem?_append_right (by omega), hA]; simp -implicitDefEqProofs
      have e1 := wrN j' (by omega)
      have q1 : j' < D'.length := by rw [hD2]; simp -implicitDefEqProofs; omega
      have q2 : j' + 1 < D'.length := by rw [hD2]; simp -implicitDefEqProofs; omega
      have g1' : D'[j' + 1] = es[i] := (List.getElem?_eq_some_iff.1 g1).2
      have g0' : D'[j'] = y := (List.getElem?_eq_some_iff.1 g0).2
      simp -implicitDefEqProofs [g1', g0', e1, encM, q1, q2]
      refine CallF.pure (New2_ok es[i] y) (by decide) ?_
      rcases hc : decide (cmpI es[i].o y.o < 0) <;> simp -implicitDefEqProofs [hc, e1, q1, q2, g1', g0', encM]
      · refine hex2 _ _ ?_
        simp -implicitDefEqProofs [wr1 i (by omega)]
        refine hnext _ (i + 1, D') ⟨by simp -implicitDefEqProofs, fin ?_⟩ (by simp -implicitDefEqProofs; omega) (turn_weak (by simp -implicitDefEqProofs) (by simp -implicitDefEqProofs) (by simp -implicitDefEqProofs))
        have : ¬ es[i].o < y.o := by rw [← cmpI_neg]; simpa using hc
        rw [hdr, insRev, if_neg this]
      · refine hnext2 _ (j', (D'.set (j' + 1) y).set j' es[i]) ⟨by omega, ?_, ?_⟩ (by simp -implicitDefEqProofs) (turn_weak (by simp -implicitDefEqProofs) (by simp -implicitDefEqProofs [encM, List.map_set, g1', g0']) (by simp -implicitDefEqProofs))
        · have : es[i].o < y.o := by rw [← cmpI_neg]; simpa using hc
          rw [hins, hdr, insRev, if_pos this, htk]; simp -implicitDefEqProofs
        · rw [hD2, swap_down hA, htk, hAA]; simp -implicitDefEqProofs
  · refine hex _ _ ?_
    simp -implicitDefEqProofs
    have hlt : ¬ i < es.length := by simpa using h
    refine hN _ (.keeps [] [(id, .vec 77 2 (D.map encM) ver true)] rfl (by simp -implicitDefEqProofs) (by simp -implicitDefEqProofs) (by simp -implicitDefEqProofs) (by simp -implicitDefEqProofs) (by simp -implicitDefEqProofs) (.refl _) ⟨rfl, ?_⟩)
    rw [hD, List.take_of_length_le (by omega), List.drop_eq_nil_of_le (by omega)]
    simp -implicitDefEqProofs [sortM]
end Go.Awp.R1

/- event.New. -/
namespace Go.Awp.R1
open Go Go.Awp Go.Proofs Go.Awp.B

abbrev Sorts (id : Id) (ver : Nat) (es : List Mk) : Nat → AOut → Store → Prop := fun _ o σ' => o = .ret (.tup []) ∧ σ' = [(id, .vec 77 2 ((sortM es).map encM) ver true)]

theorem Pdq_ok (id : Id) (ver : Nat) (es : List Mk) (k : Int) (hl : es.length ≤ 12) : AFn TC 67 [.vec id ver, .int .i64 0, .int .i64 es.length, .int .i64 k, .func (.func 62) [] []] [(id, .vec 77 2 (es.map encM) ver true)] (Sorts id ver es) := by
  refine afn_enter Try.func67 rfl rfl rfl (by decide) (Nat.le_of_ble_eq_true rfl) (by kernel_rfl) fun L K hL hR hN hP => ?_
  simp -implicitDefEqProofs
  refine loopJ (α := Unit) (fun _ => True)
    (fun _ => [(0, .vec id ver), (1, .int .i64 0), (2, .int .i64 es.length), (3, .int .i64 k), (4, .func (.func 62) [] []), (10, .bool true), (11, .bool true)])
    (fun _ => [(id, .vec 77 2 (es.map encM) ver true)]) (fun _ => 0) () trivial (turn_weak (by simp -implicitDefEqProofs) (by simp -implicitDefEqProofs) (by simp -implicitDefEqProofs)) ?_
  rintro ⟨⟩ L1 K1 - hL1 hk1 hnext hex hrt - -
  have h12 : (es.length : Int) ≤ 12 := by omega
  simp -implicitDefEqProofs [h12, wrN es.length (by omega)]
  refine CallF.gen (InsSort_ok id ver es (by omega)) (by simp -implicitDefEqProofs) (by simp -implicitDefEqProofs) (by decide) rfl ?_ ?_
  · rintro L' v σ' h1 h2 ⟨e, rfl⟩
    cases e
    simp -implicitDefEqProofs [Store.less]
    refine hrt _ ?_
    exact hR _ (.keeps [] [(id, .vec 77 2 ((sortM es).map encM) ver true)] rfl (by simp -implicitDefEqProofs) (by simp -implicitDefEqProofs) (by simp -implicitDefEqProofs) (by simp -implicitDefEqProofs) (by simp -implicitDefEqProofs) (.refl _) ⟨rfl, rfl⟩)
  · rintro L' v σ' h1 h2 ⟨e, rfl⟩
    cases e

theorem SortFunc_ok (id : Id) (ver : Nat) (es : List Mk) (hl : es.length ≤ 12) : AFn TC 61 [.vec id ver, .func (.func 62) [] []] [(id, .vec 77 2 (es.map encM) ver true)] (Sorts id ver es) := by
  refine afn_enter Try.func61 rfl rfl rfl (by decide) (Nat.le_of_ble_eq_true rfl) (by kernel_rfl) fun L K hL hR hN hP => ?_
  simp -implicitDefEqProofs [wrap_u64 (n := (es.length : Int)) (by omega) (by omega)]
  refine CallF.pureX (Len_ok es.length hl) (by decide) rfl ?_
  rintro _ ⟨k, rfl⟩
  simp -implicitDefEqProofs
  refine CallF.gen (Pdq_ok id ver es k hl) (by simp -implicitDefEqProofs) (by simp -implicitDefEqProofs) (by decide) rfl ?_ ?_
  · rintro L' v σ' h1 h2 ⟨e, rfl⟩
    cases e
    simp -implicitDefEqProofs [Store.less]
    exact hN _ (.keeps [] [(id, .vec 77 2 ((sortM es).map encM) ver true)] rfl (by simp -implicitDefEqProofs) (by simp -implicitDefEqProofs) (by simp -implicitDefEqProofs) (by simp -implicitDefEqProofs) (by simp -implicitDefEqProofs) (.refl _) ⟨rfl, rfl⟩)
  · rintro L' v σ' h1 h2 ⟨e, rfl⟩
    cases e

theorem merge_succ {l : List Mk} {k : Nat} (h : k < l.length) : mergeM (l.take (k + 1)) = addMark (mergeM (l.take k)) l[k] := by
  unfold mergeM
  rw [List.take_add_one, List.getElem?_eq_getElem h, List.foldl_append]; rfl

theorem map_modify {α β : Type} (f : α → β) {l : List α} {i : Nat} (g : α → α) (h : i < l.length) : (l.modify i g).map f = (l.map f).set i (f (g l[i])) := by
  apply List.ext_getElem
  · simp -implicitDefEqProofs
  · intro j h1 h2
    simp only [List.getElem_map, List.getElem_modify, List.getElem_set]
    split
    · rename_i e; subst e; rfl
    · rfl

theorem New_ok (t : Int) (l : List Mk) (hl : l.length ≤ 12) : APure TC 44 [.int .i64 t, .slice (l.map encM)] (encE (newE t l)) := by
  refine afn_enter Try.func44 rfl rfl rfl (by decide) (Nat.le_of_ble_eq_true rfl) (by kernel_rfl) fun L K hL hR hN hP => ?_
  simp -implicitDefEqProofs
  refine wait_turn (turn_thaw (t := 5) (el := 77) (sz := 2) (by simp -implicitDefEqProofs) (by decide)) ?_
  refine loopJ (α := Nat × List Mk) (fun x => x.1 ≤ l.length ∧ x.2 = mergeM (l.take x.1) ∧ x.2.length ≤ x.1)
    (fun x => [(0, .int .i64 t), (4, .ptr (L, 0) 0), (5, .vec (L, 1) x.2.length), (9, .slice (l.map encM)), (10, .int .i64 l.length), (11, .int .i64 x.1)])
    (fun x => [((L, 1), .vec 77 2 (x.2.map encM) x.2.length true), ((L, 0), .cells 38 [.int .i64 0, .snil])]) (fun x => l.length - x.1) (0, []) (by simp -implicitDefEqProofs [mergeM]) (turn_weak (by simp -implicitDefEqProofs) (by simp -implicitDefEqProofs) (by simp -implicitDefEqProofs)) ?_
  rintro ⟨k, out⟩ L1 K1 ⟨hk, hout, hlen⟩ hL1 hk1 hnext hex hrt - -
  simp -implicitDefEqProofs at hk hout hlen hk1 hL1
  simp -implicitDefEqProofs
  refine CondC.mk (fun h => ?_) (fun h => ?_)
  · have hlt : k < l.length := by simpa using h
    have hx : l[k]? = some l[k] := List.getElem?_eq_getElem hlt
    have hms := merge_succ hlt
    rw [← hout] at hms
    generalize l[k] = m at hx hms
    simp -implicitDefEqProofs [hx, encM]
    refine CallF.borrow (IndexMark_ok out (fun x => x.o == m.o) 60 [.rptr (encM m)] (by omega) fun x _ => New1_ok m x) (.cons (.vec (t := 77) (s := 2) (es := out.map encM) (wr := true) (by simp -implicitDefEqProofs [hk1, Ne.symm hk1]) (frzL_refl _)) (.cons (.func .nil (.cons (.cells (t := 77) (cs := [.int .i64 m.o, .bool m.w]) (by simp -implicitDefEqProofs) (frzL_refl _)) .nil)) .nil)) rfl (by decide) ?_
    rcases hfi : out.findIdx? (fun x => x.o == m.o) with _ | i
    · have hix : ix out (fun x => x.o == m.o) = -1 := by unfold ix; rw [hfi]
      have hadd : addMark out m = out ++ [m] := by unfold addMark; rw [hfi]
      have c1 : out.length ≤ 9223372036854775806 := by omega
      have c2 : (out.length + 1) * 16 ≤ 140737488355328 := by omega
      simp -implicitDefEqProofs [hix, hk1, Ne.symm hk1, c1, c2, wr1 k (by omega), encM]
      refine hnext _ (k + 1, out ++ [m]) ⟨by simp -implicitDefEqProofs; omega, by rw [hms, hadd], by simp -implicitDefEqProofs; omega⟩ (by simp -implicitDefEqProofs; omega) (turn_weak (by simp -implicitDefEqProofs) (by simp -implicitDefEqProofs [encM]) (by simp -implicitDefEqProofs))
    · obtain ⟨hi, hp, -⟩ := List.findIdx?_eq_some_iff_getElem.1 hfi
      have hix : ix out (fun x => x.o == m.o) = i := by unfold ix; rw [hfi]
      have hadd : addMark out m = out.modify i fun x => ⟨x.o, x.w || m.w⟩ := by unfold addMark; rw [hfi]
      have hn : ¬ (i : Int) < 0 := by omega
      rcases hw : out[i].w <;> simp -implicitDefEqProofs [hix, hk1, Ne.symm hk1, hn, hi, encM, hw, wr1 k (by omega)]
      all_goals
        refine hnext _ (k + 1, out.modify i fun x => ⟨x.o, x.w || m.w⟩) ⟨by simp -implicitDefEqProofs; omega, by rw [hms, hadd], by simp -implicitDefEqProofs; omega⟩ (by simp -implicitDefEqProofs; omega) (turn_weak (by simp -implicitDefEqProofs) ?_ (by simp -implicitDefEqProofs))
        simp -implicitDefEqProofs [map_modify encM _ hi, encM, hw]
  · refine hex _ _ ?_
    have hkn : ¬ k < l.length := by simpa using h
    have hkl : k = l.length := by omega
    subst hkl
    rw [List.take_length] at hout
    simp -implicitDefEqProofs
    refine CallF.gen (SortFunc_ok (L, 1) out.length out (by omega)) (by simp -implicitDefEqProofs) (by simp -implicitDefEqProofs) (by decide) rfl ?_ ?_
    · rintro L' v σ' h1 h2 ⟨e, rfl⟩
      cases e
      simp -implicitDefEqProofs [Store.less]
      subst hout
      exact hR _ (.pure (v := .agg [.int .i64 t, .vec (L, 1) (mergeM l).length]) (by simp -implicitDefEqProofs [resAll, resOne]) (.agg (.cons (.refl _) (.cons (.vec (t := 77) (s := 2) (es := (sortM (mergeM l)).map encM) (wr := true) (by simp -implicitDefEqProofs) (frzL_refl _)) .nil))))
    · rintro L' v σ' h1 h2 ⟨e, rfl⟩
      cases e
end Go.Awp.R1

/- The first that can come; rows of numbers. -/
namespace Go.Awp.R1
open Go Go.Awp Go.Proofs Go.Awp.B

def encI (n : Nat) : V := .int .i64 n
attribute [simp] encI encM encE


theorem int_beq (a b : Nat) : ((a : Int) == (b : Int)) = decide (a = b) := by rw [Bool.eq_iff_iff]; simp -implicitDefEqProofs; omega
theorem int_bne (a b : Nat) : ((a : Int) != (b : Int)) = !decide (a = b) := by rw [bne, int_beq]

theorem first_ok (l : List Ev) (left : List Nat) (i : Nat) (hl : Few l) (h1 : left.length ≤ 1000) (h2 : ∀ k ∈ left, k < l.length) (hi : i < l.length) :
    APure TC 47 [.slice (l.map encE), .slice (left.map encI), encI i] (.bool (firstP l i left)) := by
  refine afn_enter Try.func47 rfl rfl rfl (by decide) (Nat.le_of_ble_eq_true rfl) (by kernel_rfl) fun L K hL hR hN hP => ?_
  simp -implicitDefEqProofs
  refine loopJ (α := Nat) (fun k => k ≤ left.length ∧ firstP l i left = firstP l i (left.drop k))
    (fun k => [(0, .slice (l.map encE)), (2, encI i), (9, .slice (left.map encI)), (10, .int .i64 left.length), (11, .int .i64 k)]) (fun _ => []) (fun k => left.length - k) 0 (by simp -implicitDefEqProofs)
    (turn_weak (by simp -implicitDefEqProofs) (by simp -implicitDefEqProofs) (by simp -implicitDefEqProofs)) ?_
  rintro k L1 K1 ⟨hk, hpre⟩ hL1 _ hnext hex hrt - -
  simp -implicitDefEqProofs
  refine CondC.mk (fun hb => ?_) (fun hb => ?_)
  · have hlt : k < left.length := by simpa using hb
    have hx : left[k]? = some left[k] := List.getElem?_eq_getElem hlt
    have hdr : left.drop k = left[k] :: left.drop (k + 1) := List.drop_eq_getElem_cons hlt
    have hm : left[k] < l.length := h2 _ (List.getElem_mem _)
    generalize left[k] = j at hx hdr hm
    rw [hdr] at hpre
    by_cases e : j = i
    · subst e
      simp -implicitDefEqProofs [hx, encI]
      refine hrt _ ?_
      refine hR _ (.pure rfl ?_)
      rw [hpre]; simp -implicitDefEqProofs [firstP]
      exact .refl _
    · have hc := Depend_ok (at' l j) (at' l i) (hl.at hm) (hl.at hi)
      simp -implicitDefEqProofs [hx, encI, int_beq, e, at_get hm, at_get hi, encE]
      refine CallF.pure hc (by decide) ?_
      rcases hd : depend (at' l j) (at' l i) <;> simp -implicitDefEqProofs [wr1 k (by omega)]
      · refine hnext _ (k + 1) ⟨by omega, by rw [hpre]; simp -implicitDefEqProofs [firstP, e, hd]⟩ (by omega) (turn_weak (by simp -implicitDefEqProofs) (by simp -implicitDefEqProofs) (by simp -implicitDefEqProofs))
      · refine hrt _ ?_
        refine hR _ (.pure rfl ?_)
        rw [hpre]; simp -implicitDefEqProofs [firstP, e, hd]
        exact .refl _
  · refine hex _ _ ?_
    simp -implicitDefEqProofs
    refine hR _ (.pure rfl ?_)
    have hkn : ¬ k < left.length := by simpa using hb
    rw [hpre, List.drop_eq_nil_of_le (by omega)]
    exact .refl _

theorem EqInts_ok (a b : List Nat) (ha : short a) (hb : short b) : APure TC 16 [.slice (a.map encI), .slice (b.map encI)] (.bool (decide (a = b))) := by
  refine afn_enter Try.func16 rfl rfl rfl (by decide) (Nat.le_of_ble_eq_true rfl) (by kernel_rfl) fun L K hL hR hN hP => ?_
  by_cases hl : a.length = b.length <;> simp -implicitDefEqProofs [int_bne, hl]
  · refine loopJ (α := Nat) (fun k => k ≤ a.length ∧ ∀ i (h1 : i < a.length) (h2 : i < b.length), i < k → a[i] = b[i])
      (fun k => [(0, .slice (a.map encI)), (1, .slice (b.map encI)), (12, .int .i64 a.length), (13, .int .i64 k)]) (fun _ => []) (fun k => a.length - k) 0 (by simp -implicitDefEqProofs)
      (turn_weak (by simp -implicitDefEqProofs [hl]) (by simp -implicitDefEqProofs) (by simp -implicitDefEqProofs)) ?_
    rintro k L1 K1 ⟨hk, hpre⟩ hL1 _ hnext hex hrt - -
    simp -implicitDefEqProofs
    refine CondC.mk (fun h => ?_) (fun h => ?_)
    · have hlt : k < a.length := by simpa using h
      have hlt2 : k < b.length := by omega
      by_cases he : a[k] = b[k] <;> simp -implicitDefEqProofs [List.getElem?_eq_getElem hlt, List.getElem?_eq_getElem hlt2, encI, int_bne, he, wr1 k (by omega)]
      · refine hnext _ (k + 1) ⟨by omega, ?_⟩ (by omega) (turn_weak (by simp -implicitDefEqProofs) (by simp -implicitDefEqProofs) (by simp -implicitDefEqProofs))
        intro i q1 q2 hik
        by_cases e : i = k
        · subst e; exact he
        · exact hpre i q1 q2 (by omega)
      · refine hrt _ ?_; refine hR _ (.pure rfl ?_)
        have : ¬ a = b := fun e => he (by simp -implicitDefEqProofs [e])
        simp -implicitDefEqProofs [this]
        exact .refl _
    · refine hex _ _ ?_
      simp -implicitDefEqProofs
      refine hR _ (.pure rfl ?_)
      have hkn : ¬ k < a.length := by simpa using h
      have : a = b := take_ext hl fun i q1 q2 => hpre i q1 q2 (by omega)
      simp -implicitDefEqProofs [this]
      exact .refl _
  · refine hR _ (.pure rfl ?_)
    have : ¬ a = b := fun e => hl (by rw [e])
    simp -implicitDefEqProofs [this]
    exact .refl _

theorem IndexInt_ok (l : List Nat) (p : Nat → Bool) (fid : FuncId) (cap : List V) (hl : short l) (h : ∀ m ∈ l, APure TC fid (encI m :: cap) (.bool (p m))) : APure TC 65 [.slice (l.map encI), .func (.func fid) [] cap] (.int .i64 (ix l p)) := by
  refine afn_enter Try.func65 rfl rfl rfl (by decide) (Nat.le_of_ble_eq_true rfl) (by kernel_rfl) fun L K hL hR hN hP => ?_
  simp -implicitDefEqProofs
  refine loopJ (α := Nat) (fun k => k ≤ l.length ∧ ∀ i (hi : i < l.length), i < k → p l[i] = false)
    (fun k => [(0, .slice (l.map encI)), (1, .func (.func fid) [] cap), (7, .int .i64 l.length), (8, .int .i64 k)]) (fun _ => []) (fun k => l.length - k) 0 (by simp -implicitDefEqProofs) (turn_weak (by simp -implicitDefEqProofs) (by simp -implicitDefEqProofs) (by simp -implicitDefEqProofs)) ?_
  rintro k L1 K1 ⟨hk, hpre⟩ hL1 _ hnext hex hrt - -
  simp -implicitDefEqProofs
  refine CondC.mk (fun hb => ?_) (fun hb => ?_)
  · have hlt : k < l.length := by simpa using hb
    have hx : l[k]? = some l[k] := List.getElem?_eq_getElem hlt
    simp -implicitDefEqProofs [hx, encI]
    refine CallF.pure (h l[k] (List.getElem_mem _)) (by decide) ?_
    rcases hp : p l[k] <;> simp -implicitDefEqProofs [wr1 k (by omega)]
    · refine hnext _ (k + 1) ⟨by omega, fun i hi hik => ?_⟩ (by omega) (turn_weak (by simp -implicitDefEqProofs) (by simp -implicitDefEqProofs) (by simp -implicitDefEqProofs))
      by_cases e : i = k
      · subst e; exact hp
      · exact hpre i hi (by omega)
    · refine hrt _ ?_
      refine hR _ (.pure rfl ?_)
      rw [ix_some hlt hp hpre]
      exact .refl _
  · refine hex _ _ ?_
    simp -implicitDefEqProofs
    refine hR _ (.pure rfl ?_)
    have hkn : ¬ k < l.length := by simpa using hb
    rw [ix_none fun i hi => hpre i hi (by omega)]
    exact .refl _

theorem NormalF1_ok (i b : Nat) : APure TC 49 [encI i, .rptr (encI b)] (.bool (i == b)) := by
  refine afn_enter Try.func49 rfl rfl rfl (by decide) (Nat.le_of_ble_eq_true rfl) (by kernel_rfl) fun L K hL hR hN hP => ?_
  simp -implicitDefEqProofs [encI, int_beq]
  refine hR _ (.pure rfl ?_)
  rw [show (i == b) = decide (i = b) from rfl]
  exact .refl _
end Go.Awp.R1

/- Some are taken out of a row of numbers. -/
namespace Go.Awp.R1
open Go Go.Awp Go.Proofs Go.Awp.B

theorem take_set_succ {α : Type} {D : List α} {i : Nat} {v : α} (h : i < D.length) : (D.set i v).take (i + 1) = D.take i ++ [v] := by
  rw [List.take_add_one, List.getElem?_set_self h, List.take_set_of_le (Nat.le_refl _)]; rfl
theorem filter_take_succ {α : Type} (p : α → Bool) {es : List α} {j : Nat} (h : j < es.length) : (es.take (j + 1)).filter p = (es.take j).filter p ++ if p es[j] = true then [es[j]] else [] := by
  rw [List.take_add_one, List.getElem?_eq_getElem h, List.filter_append]
  cases hp : p es[j] <;> simp -implicitDefEqProofs [hp]

theorem DelInt_ok (id : Id) (ver : Nat) (es : List Nat) (p : Nat → Bool) (fid : FuncId) (cap : List V) (hl : es.length ≤ 1000) (h : ∀ m ∈ es, APure TC fid (encI m :: cap) (.bool (p m))) (hex : ∃ m ∈ es, p m = true) :
    AFn TC 48 [.vec id ver, .func (.func fid) [] cap] [(id, .vec 3 1 (es.map encI) ver true)] fun _ o σ' => o = .ret (.vsub id ver 1 0 (es.filter (!p ·)).length) ∧
      σ' = [(id, .vec 3 1 ((es.filter (!p ·) ++ List.replicate (es.length - (es.filter (!p ·)).length) 0).map encI) ver true)] := by
  refine afn_enter Try.func48 rfl rfl rfl (by decide) (Nat.le_of_ble_eq_true rfl) (by kernel_rfl) fun L K hL hR hN hP => ?_
  simp -implicitDefEqProofs
  refine CallF.borrow (IndexInt_ok es p fid cap (by omega) h) (.cons (.vec (t := 3) (s := 1) (es := es.map encI) (wr := true) (by simp -implicitDefEqProofs) (frzL_refl _)) (.cons (.refl _) .nil)) rfl (by decide) ?_
  obtain ⟨i0, hf⟩ : ∃ i0, es.findIdx? p = some i0 := by
    cases hq : es.findIdx? p with
    | some i => exact ⟨i, rfl⟩
    | none => rw [List.findIdx?_eq_none_iff] at hq; obtain ⟨m, h1, h2⟩ := hex; have := hq m h1; simp -implicitDefEqProofs [h2] at this
  have hix : ix es p = i0 := by unfold ix; rw [hf]
  obtain ⟨hi0, hp0, hb0⟩ := List.findIdx?_eq_some_iff_getElem.1 hf
  have hne : ((i0 : Int) == -1) = false := by simp -implicitDefEqProofs
  simp -implicitDefEqProofs [hix, hne, wr1 i0 (by omega)]
  refine loopJ (α := Nat × Nat × List Nat) (fun x => x.2.1 < x.1 ∧ x.1 ≤ es.length ∧ x.2.2.length = es.length ∧ x.2.2.take x.2.1 = (es.take x.1).filter (!p ·) ∧ x.2.2.drop x.1 = es.drop x.1)
    (fun x => [(0, .vec id ver), (1, .func (.func fid) [] cap), (5, .int .i64 x.2.1), (6, .int .i64 x.1)])
    (fun x => [(id, .vec 3 1 (x.2.2.map encI) ver true)]) (fun x => es.length - x.1) (i0 + 1, i0, es) ⟨by simp -implicitDefEqProofs, hi0, rfl, ?_, rfl⟩ (turn_weak (by simp -implicitDefEqProofs) (by simp -implicitDefEqProofs) (by simp -implicitDefEqProofs)) ?_
  · show es.take i0 = _
    rw [filter_take_succ _ hi0]
    simp -implicitDefEqProofs [hp0]
    refine (List.filter_eq_self.2 fun x hx => ?_).symm
    obtain ⟨k, hk, rfl⟩ := List.getElem_of_mem hx
    have hk2 : k < i0 := by simp -implicitDefEqProofs at hk; omega
    simpa using hb0 k hk2
  rintro ⟨j, i, D⟩ L1 K1 ⟨hij, hj, hD, hT, hDr⟩ hL1 hk1 hnext hex hrt - -
  simp -implicitDefEqProofs at hij hj hD hT hDr
  simp -implicitDefEqProofs [hD]
  refine CondC.mk (fun hb => ?_) (fun hb => ?_)
  · have hlt : j < es.length := by simpa using hb
    have hDj : D[j]'(by omega) = es[j] := by
      have h1 := List.drop_eq_getElem_cons (l := D) (i := j) (by omega)
      have h2 := List.drop_eq_getElem_cons hlt
      rw [hDr, h2] at h1
      injection h1 with h1 _; exact h1.symm
    have hjD : j < D.length := by omega
    have hiD : i < D.length := by omega
    simp -implicitDefEqProofs [hjD, hDj]
    refine CallF.pure (h es[j] (List.getElem_mem _)) (by decide) ?_
    rcases hp : p es[j] <;> simp -implicitDefEqProofs [wr1 j (by omega), wr1 i (by omega), hiD]
    · refine hnext _ (j + 1, i + 1, D.set i es[j]) ⟨by simp -implicitDefEqProofs; omega, by simp -implicitDefEqProofs; omega, by simp -implicitDefEqProofs [hD], ?_, ?_⟩ (by simp -implicitDefEqProofs; omega) (turn_weak (by simp -implicitDefEqProofs) (by simp -implicitDefEqProofs [List.map_set]) (by simp -implicitDefEqProofs))
      · show (D.set i es[j]).take (i + 1) = _
        rw [take_set_succ hiD, filter_take_succ _ hlt, hT]; simp -implicitDefEqProofs [hp]
      · show (D.set i es[j]).drop (j + 1) = es.drop (j + 1)
        rw [List.drop_set_of_lt (by omega), ← List.drop_drop, hDr, List.drop_drop]
    · refine hnext _ (j + 1, i, D) ⟨by simp -implicitDefEqProofs; omega, by simp -implicitDefEqProofs; omega, by simp -implicitDefEqProofs [hD], ?_, ?_⟩ (by simp -implicitDefEqProofs; omega) (turn_weak (by simp -implicitDefEqProofs) (by simp -implicitDefEqProofs) (by simp -implicitDefEqProofs))
      · show D.take i = _
        rw [filter_take_succ _ hlt, hT]; simp -implicitDefEqProofs [hp]
      · show D.drop (j + 1) = es.drop (j + 1)
        rw [← List.drop_drop, hDr, List.drop_drop]
  · refine hex _ _ ?_
    have hjn : ¬ j < es.length := by simpa using hb
    have hT : D.take i = es.filter (!p ·) := by rw [hT, List.take_of_length_le (l := es) (by omega)]
    have hlen : (es.filter (!p ·)).length = i := by rw [← hT]; simp -implicitDefEqProofs; omega
    have hin : i ≤ D.length := by omega
    have hsplit : D.take i ++ List.replicate (D.length - i) 0 = es.filter (!p ·) ++ List.replicate (es.length - (es.filter (!p ·)).length) 0 := by rw [hT, hlen, hD]
    have hne2 : ¬ (D.length - i = 0) := by omega
    have ho : overL (D.map encI) i (List.replicate (D.length - i) (V.int .i64 0)) = (es.filter (!p ·) ++ List.replicate (es.length - (es.filter (!p ·)).length) 0).map encI := by
      rw [← hsplit]
      unfold overL
      rw [List.drop_eq_nil_of_le (by simp -implicitDefEqProofs; omega)]
      simp -implicitDefEqProofs [List.map_take]
    have hof : (overL (D.map encI) i (List.replicate (D.length - i) (V.int .i64 0))).length = es.length := by rw [ho]; simp -implicitDefEqProofs; omega
    simp -implicitDefEqProofs [hin, hne2, hof, show i ≤ es.length by omega]
    refine hR _ (.keep [] [(id, .vec 3 1 (overL (D.map encI) i (List.replicate (D.length - i) (V.int .i64 0))) ver true)] rfl (by simp -implicitDefEqProofs) (by simp -implicitDefEqProofs) (by simp -implicitDefEqProofs) (by simp -implicitDefEqProofs) (.refl _) ⟨?_, by rw [ho]⟩)
    rw [hlen]
end Go.Awp.R1

/- Normal, Form. -/
namespace Go.Awp.R1
open Go Go.Awp Go.Proofs Go.Awp.B

theorem normalF_step {pk : List Nat → Option Nat} {m : Nat} {left : List Nat} {b : Nat} (h : pk left = some b) (hm : b ∈ left) (hl : left.length ≤ m) : normalF pk m left = b :: normalF pk (m - 1) (left.filter (· != b)) := by
  cases m with
  | zero => cases left with
    | nil => cases hm
    | cons => simp -implicitDefEqProofs at hl
  | succ m => simp -implicitDefEqProofs [normalF, h]
theorem filter_lt {left : List Nat} {b : Nat} (hm : b ∈ left) : (left.filter (· != b)).length < left.length := by
  rw [← List.countP_eq_length_filter]
  have := List.countP_eq_length (p := (· != b)) (l := left)
  have h2 := List.countP_le_length (p := (· != b)) (l := left)
  rcases Nat.lt_or_eq_of_le h2 with h | h
  · exact h
  · have := this.1 h b hm; simp -implicitDefEqProofs at this

def bi : Option Nat → Int
  | none => -1
  | some b => b

theorem NormalP_ok (l : List Ev) (hl : Few l) : APure TC 17 [.slice (l.map encE)] (.slice ((normalP l).map encI)) := by
  have hl0 := hl.len
  refine afn_enter Try.func17 rfl rfl rfl (by decide) (Nat.le_of_ble_eq_true rfl) (by kernel_rfl) fun L K hL hR hN hP => ?_
  simp -implicitDefEqProofs
  refine wait_turn (turn_thaw (t := 4) (el := 3) (sz := 1) (by simp -implicitDefEqProofs) (by decide)) ?_
  refine wait_turn (turn_thaw (t := 3) (el := 3) (sz := 1) (by simp -implicitDefEqProofs) (by decide)) ?_
  refine loopJ (α := Nat) (fun k => k ≤ l.length)
    (fun k => [(0, .slice (l.map encE)), (3, .vec (L, 1) 0), (4, .vec (L, 0) k), (10, .int .i64 l.length), (11, .int .i64 k)])
    (fun k => [((L, 1), .vec 3 1 [] 0 true), ((L, 0), .vec 3 1 ((List.range k).map encI) k true)]) (fun k => l.length - k) 0 (by simp -implicitDefEqProofs) (turn_weak (by simp -implicitDefEqProofs) (by simp -implicitDefEqProofs) (by simp -implicitDefEqProofs)) ?_
  · rintro k L1 K1 hk hL1 hk1 hnext hex hrt - -
    simp -implicitDefEqProofs at hk1
    simp -implicitDefEqProofs
    refine CondC.mk (fun hb => ?_) (fun hb => ?_)
    · have hlt : k < l.length := by simpa using hb
      have c1 : k ≤ 9223372036854775806 := by omega
      have c2 : (k + 1) * 8 ≤ 140737488355328 := by omega
      simp -implicitDefEqProofs [c1, c2, wr1 k (by omega)]
      exact hnext _ (k + 1) (by omega) (by omega) (turn_weak (by simp -implicitDefEqProofs) (by simp -implicitDefEqProofs [List.range_succ]) (by simp -implicitDefEqProofs))
    · refine hex _ _ ?_
      have hkn : ¬ k < l.length := by simpa using hb
      have hkl : k = l.length := by omega
      subst hkl
      simp -implicitDefEqProofs
      refine loopJ (α := List Nat × List Nat × Nat × Nat) (fun x => normalP l = x.1 ++ normalF (pickP l) x.2.2.2 x.2.1 ∧ x.2.1.length ≤ x.2.2.2 ∧ x.1.length + x.2.1.length ≤ l.length ∧ ∀ i ∈ x.2.1, i < l.length)
        (fun x => [(0, .slice (l.map encE)), (3, .vec (L, 1) x.1.length), (4, .vec (L, 0) x.2.2.1)])
        (fun x => [((L, 1), .vec 3 1 (x.1.map encI) x.1.length true), ((L, 0), .vec 3 1 (x.2.1.map encI) x.2.2.1 true)]) (fun x => x.2.1.length) ([], List.range l.length, l.length, l.length) (by simp -implicitDefEqProofs [normalP]) (turn_weak (by simp -implicitDefEqProofs) (by simp -implicitDefEqProofs) (by simp -implicitDefEqProofs)) ?_
      rintro ⟨out, left, ver, m⟩ L1 K1 ⟨hn, hm, hlen, hin⟩ hL1 hk1 hnext hex hrt - -
      simp -implicitDefEqProofs at hn hm hlen hin hL1
      have n1 : L ≠ L1 := by omega
      simp -implicitDefEqProofs
      refine CondC.mk (fun hb => ?_) (fun hb => ?_)
      · have hpos : 0 < left.length := by simpa using hb
        obtain ⟨b, hpk⟩ : ∃ b, pickP l left = some b := by
          cases hq : pickP l left with
          | some b => exact ⟨b, rfl⟩
          | none => have := pick_none l hq; subst this; simp -implicitDefEqProofs at hpos
        obtain ⟨hbm, -, -⟩ := pick_some l hpk
        simp -implicitDefEqProofs [n1, n1.symm]
        refine loopJ (α := Nat × Option Nat) (fun x => x.1 ≤ left.length ∧ x.2 = (left.take x.1).foldl (fun b i => if firstP l i left = true then better l b i else b) none ∧ ∀ b, x.2 = some b → b < l.length)
          (fun x => [(0, .slice (l.map encE)), (3, .vec (L, 1) out.length), (4, .vec (L, 0) ver), (6, .ptr (L1, 0) 0), (22, .vec (L, 0) ver), (23, .int .i64 left.length), (24, .int .i64 x.1)])
          (fun x => [((L1, 0), .cells 3 [.int .i64 (bi x.2)]), ((L, 1), .vec 3 1 (out.map encI) out.length true), ((L, 0), .vec 3 1 (left.map encI) ver true)]) (fun x => left.length - x.1) (0, none) (by simp -implicitDefEqProofs) (turn_weak (by simp -implicitDefEqProofs) (by simp -implicitDefEqProofs [bi]) (by simp -implicitDefEqProofs)) ?_
        rintro ⟨k, b'⟩ L2 K2 ⟨hk, hb', hbl⟩ hL2 hk2 hnext2 hex2 hrt2 - -
        simp -implicitDefEqProofs at hk hb' hbl hL2
        have n2 : L ≠ L2 := by omega
        have n3 : L1 ≠ L2 := by omega
        simp -implicitDefEqProofs
        refine CondC.mk (fun hb => ?_) (fun hb => ?_)
        · have hlt : k < left.length := by simpa using hb
          have hfs := fold_succ (fun b i => if firstP l i left = true then better l b i else b) none hlt
          rw [← hb'] at hfs
          have hil : left[k] < l.length := hin _ (List.getElem_mem _)
          generalize hx : left[k] = i at hfs hil
          simp -implicitDefEqProofs [hx, hlt, n1, n1.symm, n2, n2.symm, n3, n3.symm]
          refine CallF.borrow (first_ok l left i hl (by omega) hin hil) (.cons (.refl _) (.cons (.vec (t := 3) (s := 1) (es := left.map encI) (wr := true) (by simp -implicitDefEqProofs [n1, n1.symm, n2, n2.symm, n3, n3.symm]) (frzL_refl _)) (.cons (.refl _) .nil))) rfl (by decide) ?_
          rcases hf : firstP l i left <;> simp -implicitDefEqProofs [wr1 k (by omega), hf]
          · exact hnext2 _ (k + 1, b') ⟨by simp -implicitDefEqProofs; omega, by rw [hfs]; simp -implicitDefEqProofs [hf], hbl⟩ (by simp -implicitDefEqProofs; omega) (turn_weak (by simp -implicitDefEqProofs) (by simp -implicitDefEqProofs) (by simp -implicitDefEqProofs))
          · cases b' with
            | none =>
              simp -implicitDefEqProofs [bi, wr1 k (by omega), n1, n1.symm, n2, n2.symm, n3, n3.symm]
              exact hnext2 _ (k + 1, some i) ⟨by simp -implicitDefEqProofs; omega, by rw [hfs]; simp -implicitDefEqProofs [hf, better], by simp -implicitDefEqProofs; exact hil⟩ (by simp -implicitDefEqProofs; omega) (turn_weak (by simp -implicitDefEqProofs) (by simp -implicitDefEqProofs [bi]) (by simp -implicitDefEqProofs))
            | some c =>
              have hcl := hbl c rfl
              have hc0 : ¬ (c : Int) < 0 := by omega
              rcases hlt2 : decide ((at' l i).t < (at' l c).t) <;> simp -implicitDefEqProofs [bi, hc0, hlt2, at_get hil, at_get hcl, wr1 k (by omega), n1, n1.symm, n2, n2.symm, n3, n3.symm]
              · exact hnext2 _ (k + 1, some c) ⟨by simp -implicitDefEqProofs; omega, by rw [hfs]; simp -implicitDefEqProofs at hlt2; simp -implicitDefEqProofs [hf, better]; omega, by simp -implicitDefEqProofs; exact hcl⟩ (by simp -implicitDefEqProofs; omega) (turn_weak (by simp -implicitDefEqProofs) (by simp -implicitDefEqProofs [bi]) (by simp -implicitDefEqProofs))
              · exact hnext2 _ (k + 1, some i) ⟨by simp -implicitDefEqProofs; omega, by rw [hfs]; simp -implicitDefEqProofs at hlt2; simp -implicitDefEqProofs [hf, better]; omega, by simp -implicitDefEqProofs; exact hil⟩ (by simp -implicitDefEqProofs; omega) (turn_weak (by simp -implicitDefEqProofs) (by simp -implicitDefEqProofs [bi]) (by simp -implicitDefEqProofs))
        · refine hex2 _ _ ?_
          have hkn : ¬ k < left.length := by simpa using hb
          have e : b' = some b := by rw [hb', List.take_of_length_le (by omega)]; exact hpk
          subst e
          have c1 : out.length ≤ 9223372036854775806 := by omega
          have c2 : (out.length + 1) * 8 ≤ 140737488355328 := by omega
          simp -implicitDefEqProofs [bi, c1, c2, n1, n1.symm]
          refine CallF.frz [((L1, 0), .cells 3 [encI b])] (DelInt_ok (L, 0) ver left (fun i => i == b) 49 [.rptr (encI b)] (by omega) (fun i _ => NormalF1_ok i b) ⟨b, hbm, by simp -implicitDefEqProofs⟩)
            (.cons (.refl _) (.cons (.func .nil (.cons (.cell (t := 3) (c := encI b) (by simp -implicitDefEqProofs) (.refl _)) .nil)) .nil)) (by simp -implicitDefEqProofs) (by simp -implicitDefEqProofs [Store.less, n1, n1.symm]) (by simp -implicitDefEqProofs) (by decide) rfl ?_ ?_
          · rintro L' v σ' h1 h2 ⟨e, rfl⟩
            cases e
            simp -implicitDefEqProofs [Store.less, n1, n1.symm]
            have hfl := filter_lt hbm
            refine hnext _ (out ++ [b], left.filter (· != b), ver + 1, m - 1) ⟨by rw [hn, normalF_step hpk hbm hm]; simp -implicitDefEqProofs, by show (left.filter (· != b)).length ≤ m - 1; omega, by show (out ++ [b]).length + (left.filter (· != b)).length ≤ l.length; rw [List.length_append, List.length_singleton]; omega, fun i hi => hin i (List.mem_filter.1 hi).1⟩ hfl
              ((turn_cut (t := 4) (id := L) (j := 0) (ver := ver) (z := 1) (el := 3) (len := (left.filter (fun x => !x == b)).length) (es := (left.filter (fun x => !x == b)).map encI ++ List.replicate (left.length - (left.filter (fun x => !x == b)).length) (.int .i64 0)) (by simp -implicitDefEqProofs) (by simp -implicitDefEqProofs) (by simp -implicitDefEqProofs)).trans (turn_weak (by simp -implicitDefEqProofs) (by simp -implicitDefEqProofs [n1, n1.symm]; rfl) (by simp -implicitDefEqProofs)))
          · rintro L' v σ' h1 h2 ⟨e, rfl⟩
            cases e
      · refine hex _ _ ?_
        have hln : ¬ 0 < left.length := by simpa using hb
        have e : left = [] := List.eq_nil_of_length_eq_zero (by omega)
        subst e
        simp -implicitDefEqProofs
        refine hR _ (.pure rfl ?_)
        rw [hn, normalF_nil, List.append_nil]
        exact .vec (t := 3) (s := 1) (es := out.map encI) (wr := true) (by simp -implicitDefEqProofs) (frzL_refl _)
end Go.Awp.R1

/- The statement's own Normal; Form. -/
namespace Go.Awp.R1
open Go Go.Awp Go.Proofs Go.Awp.B

@[simp] theorem frz_refl (σ : Store) (v : V) : Frz σ v v := .refl v

theorem all_take_succ {α : Type} (p : α → Bool) {l : List α} {k : Nat} (h : k < l.length) : (l.take (k + 1)).all p = ((l.take k).all p && p l[k]) := by
  rw [List.take_add_one, List.getElem?_eq_getElem h, List.all_append]; simp -implicitDefEqProofs

theorem freeS_snd (l : List Ev) (s : List Nat × List Nat) (i : Nat) : (freeS l s i).2 = if s.1.all (fun k => !depend (at' l k) (at' l i)) = true then s.2 ++ [i] else s.2 := rfl
theorem freeS_fst (l : List Ev) (left : List Nat) (s : List Nat × List Nat) : (left.foldl (freeS l) s).1 = s.1 ++ left := by
  induction left generalizing s with
  | nil => simp -implicitDefEqProofs
  | cons i left ih => rw [List.foldl_cons, ih]; simp -implicitDefEqProofs [freeS]
theorem freeS_len (l : List Ev) (left : List Nat) (s : List Nat × List Nat) : (left.foldl (freeS l) s).2.length ≤ s.2.length + left.length := by
  induction left generalizing s with
  | nil => simp -implicitDefEqProofs
  | cons i left ih =>
    rw [List.foldl_cons]
    have := ih (freeS l s i)
    have h2 : (freeS l s i).2.length ≤ s.2.length + 1 := by unfold freeS; simp only; split <;> simp -implicitDefEqProofs
    simp -implicitDefEqProofs; omega

theorem free_ok (l : List Ev) (left : List Nat) (hl : Few l) (h1 : left.length ≤ 1000) (h2 : ∀ k ∈ left, k < l.length) :
    APure TC 24 [.slice (l.map encE), .slice (left.map encI)] (.slice ((free l left).map encI)) := by
  have hl0 := hl.len
  refine afn_enter Try.func24 rfl rfl rfl (by decide) (Nat.le_of_ble_eq_true rfl) (by kernel_rfl) fun L K hL hR hN hP => ?_
  simp -implicitDefEqProofs
  refine wait_turn (turn_thaw (t := 5) (el := 3) (sz := 1) (by simp -implicitDefEqProofs) (by decide)) ?_
  refine loopJ (α := Nat × List Nat) (fun x => x.1 ≤ left.length ∧ x.2 = ((left.take x.1).foldl (freeS l) ([], [])).2 ∧ x.2.length ≤ x.1)
    (fun x => [(0, .slice (l.map encE)), (1, .slice (left.map encI)), (5, .vec (L, 0) x.2.length), (11, .slice (left.map encI)), (12, .int .i64 left.length), (13, .int .i64 x.1)])
    (fun x => [((L, 0), .vec 3 1 (x.2.map encI) x.2.length true)]) (fun x => left.length - x.1) (0, []) (by simp -implicitDefEqProofs) (turn_weak (by simp -implicitDefEqProofs) (by simp -implicitDefEqProofs) (by simp -implicitDefEqProofs)) ?_
  rintro ⟨k, out⟩ L1 K1 ⟨hk, hout, hlen⟩ hL1 - hnext hex hrt - -
  simp -implicitDefEqProofs at hk hout hlen hL1
  have n1 : L ≠ L1 := by omega
  simp -implicitDefEqProofs
  refine CondC.mk (fun hb => ?_) (fun hb => ?_)
  · have hlt : k < left.length := by simpa using hb
    have hfs := fold_succ (freeS l) ([], []) hlt
    have hil : left[k] < l.length := h2 _ (List.getElem_mem _)
    have hkl : k ≤ left.length := by omega
    obtain ⟨pre, hpre⟩ : ∃ pre, pre = left.take k := ⟨_, rfl⟩
    have htl : pre.length = k := by rw [hpre]; simp -implicitDefEqProofs; omega
    have hpm : (left.map encI).take k = pre.map encI := by rw [hpre, List.map_take]
    have hpl : ∀ m ∈ pre, m < l.length := fun m hm => h2 _ (List.mem_of_mem_take (hpre ▸ hm))
    generalize hx : left[k] = i at hfs hil
    simp -implicitDefEqProofs [hx, hlt, hkl, hpm]
    refine loopJ (α := Nat × Bool) (fun x => x.1 ≤ k ∧ x.2 = (pre.take x.1).all (fun j => !depend (at' l j) (at' l i)))
      (fun x => [(0, .slice (l.map encE)), (1, .slice (left.map encI)), (5, .vec (L, 0) out.length), (7, .int .i64 i), (8, .bool x.2), (11, .slice (left.map encI)), (12, .int .i64 left.length), (13, .int .i64 k), (20, .slice (pre.map encI)), (21, .int .i64 k), (22, .int .i64 x.1)])
      (fun x => [((L, 0), .vec 3 1 (out.map encI) out.length true)]) (fun x => k - x.1) (0, true) (by simp -implicitDefEqProofs) (turn_weak (by simp -implicitDefEqProofs [htl]) (by simp -implicitDefEqProofs) (by simp -implicitDefEqProofs)) ?_
    rintro ⟨j, ok⟩ L2 K2 ⟨hj, hok⟩ hL2 - hnext2 hex2 hrt2 - -
    simp -implicitDefEqProofs at hj hok hL2
    have n2 : L ≠ L2 := by omega
    simp -implicitDefEqProofs
    refine CondC.mk (fun hb => ?_) (fun hb => ?_)
    · have hjk : j < k := by simpa using hb
      have hjt : j < pre.length := by omega
      have has := all_take_succ (fun j => !depend (at' l j) (at' l i)) hjt
      have hjl : pre[j] < l.length := hpl _ (List.getElem_mem _)
      have hx2 : pre[j]? = some pre[j] := List.getElem?_eq_getElem hjt
      generalize pre[j] = m at has hjl hx2
      rw [← hok] at has
      simp -implicitDefEqProofs [hx2]
      rcases ok <;> simp -implicitDefEqProofs [at_get hjl, at_get hil, wr1 j (by omega)]
      · exact hnext2 _ (j + 1, false) ⟨by simp -implicitDefEqProofs; omega, by rw [has]; rfl⟩ (by simp -implicitDefEqProofs; omega) (turn_weak (by simp -implicitDefEqProofs) (by simp -implicitDefEqProofs) (by simp -implicitDefEqProofs))
      · refine CallF.pure (Depend_ok (at' l m) (at' l i) (hl.at hjl) (hl.at hil)) (by decide) ?_
        simp -implicitDefEqProofs [wr1 j (by omega)]
        exact hnext2 _ (j + 1, !depend (at' l m) (at' l i)) ⟨by simp -implicitDefEqProofs; omega, by rw [has]; rfl⟩ (by simp -implicitDefEqProofs; omega) (turn_weak (by simp -implicitDefEqProofs) (by simp -implicitDefEqProofs) (by simp -implicitDefEqProofs))
    · refine hex2 _ _ ?_
      have hjk : ¬ j < k := by simpa using hb
      rw [List.take_of_length_le (l := pre) (by omega)] at hok
      have c1 : out.length ≤ 9223372036854775806 := by omega
      have c2 : (out.length + 1) * 8 ≤ 140737488355328 := by omega
      have hs : ((left.take (k + 1)).foldl (freeS l) ([], [])).2 = if ok = true then out ++ [i] else out := by
        rw [hfs, freeS_snd, freeS_fst, ← hout, ← hpre]
        simp only [List.nil_append, ← hok]
      rcases ok <;> simp -implicitDefEqProofs [wr1 k (by omega), c1, c2]
      · exact hnext _ (k + 1, out) ⟨by simp -implicitDefEqProofs; omega, by rw [hs]; rfl, by simp -implicitDefEqProofs; omega⟩ (by simp -implicitDefEqProofs; omega) (turn_weak (by simp -implicitDefEqProofs) (by simp -implicitDefEqProofs) (by simp -implicitDefEqProofs))
      · exact hnext _ (k + 1, out ++ [i]) ⟨by simp -implicitDefEqProofs; omega, by rw [hs]; rfl, by simp -implicitDefEqProofs; omega⟩ (by simp -implicitDefEqProofs; omega) (turn_weak (by simp -implicitDefEqProofs) (by simp -implicitDefEqProofs) (by simp -implicitDefEqProofs))
  · refine hex _ _ ?_
    have hkn : ¬ k < left.length := by simpa using hb
    simp -implicitDefEqProofs
    rw [List.take_of_length_le (by omega)] at hout
    refine hR _ (.pure rfl ?_)
    unfold free; rw [← hout]
    exact .vec (t := 3) (s := 1) (es := out.map encI) (wr := true) (by simp -implicitDefEqProofs) (frzL_refl _)
end Go.Awp.R1

/- The statement's own Normal. -/
namespace Go.Awp.R1
open Go Go.Awp Go.Proofs Go.Awp.B

theorem pickL_some (l : List Ev) {left : List Nat} (hn : left.Nodup) (h : left ≠ []) : ∃ b, pickL l left = some b ∧ b ∈ left := by
  rw [pick_eq l left hn]
  cases hq : pickP l left with
  | some b => exact ⟨b, rfl, (pick_some l hq).1⟩
  | none => exact absurd (pick_none l hq) h
theorem normalF_nilL (l : List Ev) (n : Nat) : normalF (pickL l) n [] = [] := by cases n <;> rfl

theorem NormalL_ok (l : List Ev) (hl : Few l) : APure TC 18 [.slice (l.map encE)] (.slice ((normalP l).map encI)) := by
  have hl0 := hl.len
  rw [← normal_eq]
  refine afn_enter Try.func18 rfl rfl rfl (by decide) (Nat.le_of_ble_eq_true rfl) (by kernel_rfl) fun L K hL hR hN hP => ?_
  simp -implicitDefEqProofs
  refine wait_turn (turn_thaw (t := 4) (el := 3) (sz := 1) (by simp -implicitDefEqProofs) (by decide)) ?_
  refine wait_turn (turn_thaw (t := 3) (el := 3) (sz := 1) (by simp -implicitDefEqProofs) (by decide)) ?_
  refine loopJ (α := Nat) (fun k => k ≤ l.length)
    (fun k => [(0, .slice (l.map encE)), (3, .vec (L, 1) 0), (4, .vec (L, 0) k), (13, .int .i64 l.length), (14, .int .i64 k)])
    (fun k => [((L, 1), .vec 3 1 [] 0 true), ((L, 0), .vec 3 1 ((List.range k).map encI) k true)]) (fun k => l.length - k) 0 (by simp -implicitDefEqProofs) (turn_weak (by simp -implicitDefEqProofs) (by simp -implicitDefEqProofs) (by simp -implicitDefEqProofs)) ?_
  rintro k L1 K1 hk hL1 hk1 hnext hex hrt - -
  simp -implicitDefEqProofs
  refine CondC.mk (fun hb => ?_) (fun hb => ?_)
  · have hlt : k < l.length := by simpa using hb
    have c1 : k ≤ 9223372036854775806 := by omega
    have c2 : (k + 1) * 8 ≤ 140737488355328 := by omega
    simp -implicitDefEqProofs [c1, c2, wr1 k (by omega)]
    exact hnext _ (k + 1) (by omega) (by omega) (turn_weak (by simp -implicitDefEqProofs) (by simp -implicitDefEqProofs [List.range_succ]) (by simp -implicitDefEqProofs))
  · refine hex _ _ ?_
    have hkn : ¬ k < l.length := by simpa using hb
    have hkl : k = l.length := by omega
    subst hkl
    simp -implicitDefEqProofs
    refine loopJ (α := List Nat × List Nat × Nat) (fun x => normalL l = x.1 ++ normalF (pickL l) x.2.2 x.2.1 ∧ x.2.1.length ≤ x.2.2 ∧ x.1.length + x.2.1.length ≤ l.length ∧ x.2.1.Nodup ∧ ∀ i ∈ x.2.1, i < l.length)
      (fun x => [(0, .slice (l.map encE)), (3, .vec (L, 1) x.1.length), (4, .slice (x.2.1.map encI))])
      (fun x => [((L, 1), .vec 3 1 (x.1.map encI) x.1.length true)]) (fun x => x.2.1.length) ([], List.range l.length, l.length) (by simp -implicitDefEqProofs [normalL, List.nodup_range])
      (turn_frz [((L, 0), .vec 3 1 ((List.range l.length).map encI) l.length true)] [((L, 1), .vec 3 1 [] 0 true)] (by simp -implicitDefEqProofs; exact .vec (t := 3) (s := 1) (es := (List.range l.length).map encI) (wr := true) (by simp -implicitDefEqProofs) (frzL_refl _)) (by simp -implicitDefEqProofs) (by simp -implicitDefEqProofs) (by simp -implicitDefEqProofs) (by simp -implicitDefEqProofs) (.refl _)) ?_
    rintro ⟨out, left, m⟩ L1 K1 ⟨hn, hm, hlen, hnd, hin⟩ hL1 hk1 hnext hex hrt - -
    simp -implicitDefEqProofs at hn hm hlen hin hL1 hnd
    have n1 : L ≠ L1 := by omega
    simp -implicitDefEqProofs
    refine CondC.mk (fun hb => ?_) (fun hb => ?_)
    · have hpos : 0 < left.length := by simpa using hb
      obtain ⟨b, hpk, hbm⟩ := pickL_some l hnd (by intro e; subst e; simp -implicitDefEqProofs at hpos)
      have hbl := hin b hbm
      simp -implicitDefEqProofs
      refine CallF.pure (free_ok l left hl (by omega) hin) (by decide) ?_
      have hfl : (free l left).length ≤ 1000 := by rw [free_eq l left hnd]; have := List.length_filter_le (fun i => firstP l i left) left; omega
      have hfm : ∀ i ∈ free l left, i < l.length := fun i hi => by rw [free_eq l left hnd] at hi; exact hin i (List.mem_filter.1 hi).1
      have hpk2 : (free l left).foldl (better l) none = some b := hpk
      generalize free l left = fr at hfl hfm hpk2
      simp -implicitDefEqProofs
      refine loopJ (α := Nat × Option Nat) (fun x => x.1 ≤ fr.length ∧ x.2 = (fr.take x.1).foldl (better l) none ∧ ∀ b, x.2 = some b → b < l.length)
        (fun x => [(0, .slice (l.map encE)), (3, .vec (L, 1) out.length), (4, .slice (left.map encI)), (6, .int .i64 (bi x.2)), (27, .slice (fr.map encI)), (28, .int .i64 fr.length), (29, .int .i64 x.1)])
        (fun x => [((L, 1), .vec 3 1 (out.map encI) out.length true)]) (fun x => fr.length - x.1) (0, none) (by simp -implicitDefEqProofs) (turn_weak (by simp -implicitDefEqProofs [bi]) (by simp -implicitDefEqProofs) (by simp -implicitDefEqProofs)) ?_
      rintro ⟨k, b'⟩ L2 K2 ⟨hk, hb', hbl'⟩ hL2 hk2 hnext2 hex2 hrt2 - -
      simp -implicitDefEqProofs at hk hb' hbl' hL2
      simp -implicitDefEqProofs
      refine CondC.mk (fun hb => ?_) (fun hb => ?_)
      · have hlt : k < fr.length := by simpa using hb
        have hfs := fold_succ (better l) none hlt
        rw [← hb'] at hfs
        have hil : fr[k] < l.length := hfm _ (List.getElem_mem _)
        have hx : fr[k]? = some fr[k] := List.getElem?_eq_getElem hlt
        generalize fr[k] = i at hfs hil hx
        simp -implicitDefEqProofs [hx]
        cases b' with
        | none =>
          simp -implicitDefEqProofs [bi, wr1 k (by omega)]
          exact hnext2 _ (k + 1, some i) ⟨by simp -implicitDefEqProofs; omega, by rw [hfs]; rfl, by simp -implicitDefEqProofs; exact hil⟩ (by simp -implicitDefEqProofs; omega) (turn_weak (by simp -implicitDefEqProofs [bi]) (by simp -implicitDefEqProofs) (by simp -implicitDefEqProofs))
        | some c =>
          have hcl := hbl' c rfl
          have hc0 : ¬ (c : Int) < 0 := by omega
          rcases hlt2 : decide ((at' l i).t < (at' l c).t) <;> simp -implicitDefEqProofs [bi, hc0, hlt2, at_get hil, at_get hcl, wr1 k (by omega)]
          · exact hnext2 _ (k + 1, some c) ⟨by simp -implicitDefEqProofs; omega, by rw [hfs]; simp -implicitDefEqProofs at hlt2; simp -implicitDefEqProofs [better]; omega, by simp -implicitDefEqProofs; exact hcl⟩ (by simp -implicitDefEqProofs; omega) (turn_weak (by simp -implicitDefEqProofs [bi]) (by simp -implicitDefEqProofs) (by simp -implicitDefEqProofs))
          · exact hnext2 _ (k + 1, some i) ⟨by simp -implicitDefEqProofs; omega, by rw [hfs]; simp -implicitDefEqProofs at hlt2; simp -implicitDefEqProofs [better]; omega, by simp -implicitDefEqProofs; exact hil⟩ (by simp -implicitDefEqProofs; omega) (turn_weak (by simp -implicitDefEqProofs [bi]) (by simp -implicitDefEqProofs) (by simp -implicitDefEqProofs))
      · refine hex2 _ _ ?_
        have hkn : ¬ k < fr.length := by simpa using hb
        have e : b' = some b := by rw [hb', List.take_of_length_le (by omega)]; exact hpk2
        subst e
        have c1 : out.length ≤ 9223372036854775806 := by omega
        have c2 : (out.length + 1) * 8 ≤ 140737488355328 := by omega
        simp -implicitDefEqProofs [bi, c1, c2]
        refine wait_turn (turn_thaw (t := 9) (el := 3) (sz := 1) (by simp -implicitDefEqProofs) (by decide)) ?_
        refine loopJ (α := Nat × List Nat) (fun x => x.1 ≤ left.length ∧ x.2 = (left.take x.1).filter (· != b) ∧ x.2.length ≤ x.1)
          (fun x => [(0, .slice (l.map encE)), (3, .vec (L, 1) (out.length + 1)), (6, .int .i64 b), (9, .vec (L1, 0) x.2.length), (54, .slice (left.map encI)), (55, .int .i64 left.length), (56, .int .i64 x.1)])
          (fun x => [((L1, 0), .vec 3 1 (x.2.map encI) x.2.length true), ((L, 1), .vec 3 1 ((out ++ [b]).map encI) (out.length + 1) true)]) (fun x => left.length - x.1) (0, []) (by simp -implicitDefEqProofs) (turn_weak (by simp -implicitDefEqProofs) (by simp -implicitDefEqProofs) (by simp -implicitDefEqProofs)) ?_
        rintro ⟨j, rest⟩ L3 K3 ⟨hj, hrest, hrl⟩ hL3 - hnext3 hex3 hrt3 - -
        simp -implicitDefEqProofs at hj hrest hrl hL3
        have n3 : L1 ≠ L3 := by omega
        have n4 : L ≠ L3 := by omega
        simp -implicitDefEqProofs
        refine CondC.mk (fun hb => ?_) (fun hb => ?_)
        · have hlt : j < left.length := by simpa using hb
          have hft := filter_take_succ (· != b) hlt
          rw [← hrest] at hft
          have hx : left[j]? = some left[j] := List.getElem?_eq_getElem hlt
          generalize left[j] = i at hft hx
          have d1 : rest.length ≤ 9223372036854775806 := by omega
          have d2 : (rest.length + 1) * 8 ≤ 140737488355328 := by omega
          by_cases hib : i = b <;> simp -implicitDefEqProofs [hx, int_bne, hib, wr1 j (by omega), n1, n1.symm, d1, d2]
          · exact hnext3 _ (j + 1, rest) ⟨by simp -implicitDefEqProofs; omega, by rw [hft]; simp -implicitDefEqProofs [hib], by simp -implicitDefEqProofs; omega⟩ (by simp -implicitDefEqProofs; omega) (turn_weak (by simp -implicitDefEqProofs) (by simp -implicitDefEqProofs) (by simp -implicitDefEqProofs))
          · exact hnext3 _ (j + 1, rest ++ [i]) ⟨by simp -implicitDefEqProofs; omega, by rw [hft]; simp -implicitDefEqProofs [hib], by simp -implicitDefEqProofs; omega⟩ (by simp -implicitDefEqProofs; omega) (turn_weak (by simp -implicitDefEqProofs) (by simp -implicitDefEqProofs) (by simp -implicitDefEqProofs))
        · refine hex3 _ _ ?_
          have hjn : ¬ j < left.length := by simpa using hb
          rw [List.take_of_length_le (by omega)] at hrest
          have hfl := filter_lt hbm
          simp -implicitDefEqProofs
          refine hnext _ (out ++ [b], rest, m - 1) ⟨by rw [hn, normalF_step hpk hbm hm, hrest]; simp -implicitDefEqProofs, by show rest.length ≤ m - 1; rw [hrest]; omega, by show (out ++ [b]).length + rest.length ≤ l.length; rw [List.length_append, List.length_singleton, hrest]; omega, by rw [hrest]; exact filter_nodup hnd _, fun i hi => hin i (by rw [hrest] at hi; exact (List.mem_filter.1 hi).1)⟩ (by show rest.length < left.length; rw [hrest]; exact hfl)
            (turn_frz [((L1, 0), .vec 3 1 (rest.map encI) rest.length true)] [((L, 1), .vec 3 1 ((out ++ [b]).map encI) (out.length + 1) true)] (by simp -implicitDefEqProofs; exact .vec (t := 3) (s := 1) (es := rest.map encI) (wr := true) (by simp -implicitDefEqProofs) (frzL_refl _)) (by simp -implicitDefEqProofs) (by simp -implicitDefEqProofs) (by simp -implicitDefEqProofs) (by simp -implicitDefEqProofs [n1, n1.symm]) (by simp -implicitDefEqProofs; exact .refl _))
    · refine hex _ _ ?_
      have hln : ¬ 0 < left.length := by simpa using hb
      have e : left = [] := List.eq_nil_of_length_eq_zero (by omega)
      subst e
      simp -implicitDefEqProofs
      refine hR _ (.pure rfl ?_)
      rw [hn, normalF_nilL, List.append_nil]
      exact .vec (t := 3) (s := 1) (es := out.map encI) (wr := true) (by simp -implicitDefEqProofs) (frzL_refl _)
end Go.Awp.R1

/- Form, Same; the events of a statement; swaps. -/
namespace Go.Awp.R1
open Go Go.Awp Go.Proofs Go.Awp.B

theorem FormP_ok (l : List Ev) (hl : Few l) (hn : (normalP l).length ≤ l.length ∧ ∀ i ∈ normalP l, i < l.length) : APure TC 20 [.slice (l.map encE)] (.slice ((formP l).map encE)) := by
  have hl0 := hl.len
  unfold formP
  refine afn_enter Try.func20 rfl rfl rfl (by decide) (Nat.le_of_ble_eq_true rfl) (by kernel_rfl) fun L K hL hR hN hP => ?_
  simp -implicitDefEqProofs
  refine CallF.pure (NormalP_ok l hl) (by decide) ?_
  obtain ⟨hn1, hn2⟩ := hn
  generalize normalP l = ns at *
  simp -implicitDefEqProofs
  refine wait_turn (turn_thaw (t := 3) (el := 38) (sz := 2) (by simp -implicitDefEqProofs) (by decide)) ?_
  refine loopJ (α := Nat) (fun k => k ≤ ns.length)
    (fun k => [(0, .slice (l.map encE)), (3, .vec (L, 0) k), (7, .slice (ns.map encI)), (8, .int .i64 ns.length), (9, .int .i64 k)])
    (fun k => [((L, 0), .vec 38 2 (((ns.take k).map (at' l)).map encE) k true)]) (fun k => ns.length - k) 0 (by simp -implicitDefEqProofs) (turn_weak (by simp -implicitDefEqProofs) (by simp -implicitDefEqProofs) (by simp -implicitDefEqProofs)) ?_
  rintro k L1 K1 hk hL1 - hnext hex hrt - -
  simp -implicitDefEqProofs
  refine CondC.mk (fun hb => ?_) (fun hb => ?_)
  · have hlt : k < ns.length := by simpa using hb
    have hm := map_take_succ (fun i => encE (at' l i)) hlt
    have hil : ns[k] < l.length := hn2 _ (List.getElem_mem _)
    have hx : ns[k]? = some ns[k] := List.getElem?_eq_getElem hlt
    generalize ns[k] = i at hm hil hx
    have c1 : k ≤ 9223372036854775806 := by omega
    have c2 : (k + 1) * 32 ≤ 140737488355328 := by omega
    have c3 : min k ns.length = k := by omega
    simp -implicitDefEqProofs [hx, at_get hil, wr1 k (by omega), c1, c2, c3]
    exact hnext _ (k + 1) (by omega) (by omega) (turn_weak (by simp -implicitDefEqProofs) (by simp -implicitDefEqProofs; simp -implicitDefEqProofs at hm; exact hm) (by simp -implicitDefEqProofs))
  · refine hex _ _ ?_
    have hkn : ¬ k < ns.length := by simpa using hb
    have e : (ns.map (encE ∘ at' l)).take k = ns.map (encE ∘ at' l) := List.take_of_length_le (by simp -implicitDefEqProofs; omega)
    simp -implicitDefEqProofs [e]
    exact hR _ (.pure rfl (.vec (t := 38) (s := 2) (es := (ns.map (at' l)).map encE) (wr := true) (by simp -implicitDefEqProofs) (frzL_refl _)))

theorem FormL_ok (l : List Ev) (hl : Few l) (hn : (normalP l).length ≤ l.length ∧ ∀ i ∈ normalP l, i < l.length) : APure TC 21 [.slice (l.map encE)] (.slice ((formP l).map encE)) := by
  have hl0 := hl.len
  unfold formP
  refine afn_enter Try.func21 rfl rfl rfl (by decide) (Nat.le_of_ble_eq_true rfl) (by kernel_rfl) fun L K hL hR hN hP => ?_
  simp -implicitDefEqProofs
  refine CallF.pure (NormalL_ok l hl) (by decide) ?_
  obtain ⟨hn1, hn2⟩ := hn
  generalize normalP l = ns at *
  simp -implicitDefEqProofs
  refine wait_turn (turn_thaw (t := 3) (el := 38) (sz := 2) (by simp -implicitDefEqProofs) (by decide)) ?_
  refine loopJ (α := Nat) (fun k => k ≤ ns.length)
    (fun k => [(0, .slice (l.map encE)), (3, .vec (L, 0) k), (7, .slice (ns.map encI)), (8, .int .i64 ns.length), (9, .int .i64 k)])
    (fun k => [((L, 0), .vec 38 2 (((ns.take k).map (at' l)).map encE) k true)]) (fun k => ns.length - k) 0 (by simp -implicitDefEqProofs) (turn_weak (by simp -implicitDefEqProofs) (by simp -implicitDefEqProofs) (by simp -implicitDefEqProofs)) ?_
  rintro k L1 K1 hk hL1 - hnext hex hrt - -
  simp -implicitDefEqProofs
  refine CondC.mk (fun hb => ?_) (fun hb => ?_)
  · have hlt : k < ns.length := by simpa using hb
    have hm := map_take_succ (fun i => encE (at' l i)) hlt
    have hil : ns[k] < l.length := hn2 _ (List.getElem_mem _)
    have hx : ns[k]? = some ns[k] := List.getElem?_eq_getElem hlt
    generalize ns[k] = i at hm hil hx
    have c1 : k ≤ 9223372036854775806 := by omega
    have c2 : (k + 1) * 32 ≤ 140737488355328 := by omega
    have c3 : min k ns.length = k := by omega
    simp -implicitDefEqProofs [hx, at_get hil, wr1 k (by omega), c1, c2, c3]
    exact hnext _ (k + 1) (by omega) (by omega) (turn_weak (by simp -implicitDefEqProofs) (by simp -implicitDefEqProofs; simp -implicitDefEqProofs at hm; exact hm) (by simp -implicitDefEqProofs))
  · refine hex _ _ ?_
    have hkn : ¬ k < ns.length := by simpa using hb
    have e : (ns.map (encE ∘ at' l)).take k = ns.map (encE ∘ at' l) := List.take_of_length_le (by simp -implicitDefEqProofs; omega)
    simp -implicitDefEqProofs [e]
    exact hR _ (.pure rfl (.vec (t := 38) (s := 2) (es := (ns.map (at' l)).map encE) (wr := true) (by simp -implicitDefEqProofs) (frzL_refl _)))


theorem EqEvs_ok (a b : List Ev) (ha : Few a) (hb : Few b) : APure TC 50 [.slice (a.map encE), .slice (b.map encE), .func (.func 29) [] []] (.bool (decide (a = b))) := by
  have hl0 := ha.len
  have hl1 := hb.len
  refine afn_enter Try.func50 rfl rfl rfl (by decide) (Nat.le_of_ble_eq_true rfl) (by kernel_rfl) fun L K hL hR hN hP => ?_
  by_cases hl : a.length = b.length <;> simp -implicitDefEqProofs [int_bne, hl]
  · refine loopJ (α := Nat) (fun k => k ≤ a.length ∧ ∀ i (h1 : i < a.length) (h2 : i < b.length), i < k → a[i] = b[i])
      (fun k => [(1, .slice (b.map encE)), (2, .func (.func 29) [] []), (15, .slice (a.map encE)), (16, .int .i64 a.length), (17, .int .i64 k)]) (fun _ => []) (fun k => a.length - k) 0 (by simp -implicitDefEqProofs)
      (turn_weak (by simp -implicitDefEqProofs [hl]) (by simp -implicitDefEqProofs) (by simp -implicitDefEqProofs)) ?_
    rintro k L1 K1 ⟨hk, hpre⟩ hL1 _ hnext hex hrt - -
    simp -implicitDefEqProofs
    refine CondC.mk (fun h => ?_) (fun h => ?_)
    · have hlt : k < a.length := by simpa using h
      have hlt2 : k < b.length := by omega
      have hc := Same_ok a[k] b[k] (by have := ha.m _ (List.getElem_mem hlt); omega) (by have := hb.m _ (List.getElem_mem hlt2); omega)
      simp -implicitDefEqProofs [List.getElem?_eq_getElem hlt, List.getElem?_eq_getElem hlt2]
      refine CallF.pure hc (by decide) ?_
      by_cases he : a[k] = b[k] <;> simp -implicitDefEqProofs [same, he, wr1 k (by omega)]
      · refine hnext _ (k + 1) ⟨by omega, ?_⟩ (by omega) (turn_weak (by simp -implicitDefEqProofs) (by simp -implicitDefEqProofs) (by simp -implicitDefEqProofs))
        intro i q1 q2 hik
        by_cases e : i = k
        · subst e; exact he
        · exact hpre i q1 q2 (by omega)
      · refine hrt _ ?_; refine hR _ (.pure rfl ?_)
        have : ¬ a = b := fun e => he (by simp -implicitDefEqProofs [e])
        simp -implicitDefEqProofs [this]
    · refine hex _ _ ?_
      simp -implicitDefEqProofs
      refine hR _ (.pure rfl ?_)
      have hkn : ¬ k < a.length := by simpa using h
      have : a = b := take_ext hl fun i q1 q2 => hpre i q1 q2 (by omega)
      simp -implicitDefEqProofs [this]
  · refine hR _ (.pure rfl ?_)
    have : ¬ a = b := fun e => hl (by rw [e])
    simp -implicitDefEqProofs [this]

theorem Equal_ok (a b : List Ev) (ha : Few a) (hb : Few b) : APure TC 19 [.slice (a.map encE), .slice (b.map encE)] (.bool (decide (a = b))) := by
  refine afn_enter Try.func19 rfl rfl rfl (by decide) (Nat.le_of_ble_eq_true rfl) (by kernel_rfl) fun L K hL hR hN hP => ?_
  simp -implicitDefEqProofs
  refine CallF.pure (EqEvs_ok a b ha hb) (by decide) ?_
  simp -implicitDefEqProofs
  exact hR _ (.pure rfl (.refl _))
end Go.Awp.R1

/- Facts about Normal and Form. -/
namespace Go.Awp.B

theorem normalF_len (pk : List Nat → Option Nat) (n : Nat) (left : List Nat) : (normalF pk n left).length ≤ n := by
  induction n generalizing left with
  | zero => simp [normalF]
  | succ n ih =>
    unfold normalF
    cases pk left with
    | none => simp
    | some b => simp only [List.length_cons]; have := ih (left.filter (· != b)); omega
theorem normalF_mem (l : List Ev) (n : Nat) (left : List Nat) : ∀ i ∈ normalF (pickP l) n left, i ∈ left := by
  induction n generalizing left with
  | zero => simp [normalF]
  | succ n ih =>
    unfold normalF
    cases h : pickP l left with
    | none => simp
    | some b =>
      intro i hi
      rcases List.mem_cons.1 hi with rfl | hi
      · exact (pick_some l h).1
      · exact (List.mem_filter.1 (ih _ i hi)).1
theorem normal_facts (l : List Ev) : (normalP l).length ≤ l.length ∧ ∀ i ∈ normalP l, i < l.length :=
  ⟨normalF_len _ _ _, fun i hi => by simpa using normalF_mem l _ _ i hi⟩
theorem few_form {l : List Ev} (hl : Few l) : Few (formP l) := by
  obtain ⟨h1, h2⟩ := normal_facts l
  refine ⟨by have := hl.len; simp [formP]; omega, fun e he => ?_⟩
  obtain ⟨i, hi, rfl⟩ := List.mem_map.1 he
  exact hl.m _ (at_mem (h2 i hi))
end Go.Awp.B

/- Same; the events of a statement; swaps. -/
namespace Go.Awp.R1
open Go Go.Awp Go.Proofs Go.Awp.B

theorem FormP_ok' (l : List Ev) (hl : Few l) : APure TC 20 [.slice (l.map encE)] (.slice ((formP l).map encE)) := FormP_ok l hl (normal_facts l)
theorem FormL_ok' (l : List Ev) (hl : Few l) : APure TC 21 [.slice (l.map encE)] (.slice ((formP l).map encE)) := FormL_ok l hl (normal_facts l)

def sameP (a b : List Ev) : Bool := decide (formP a = formP b)

theorem SameP_ok (a b : List Ev) (ha : Few a) (hb : Few b) : APure TC 22 [.slice (a.map encE), .slice (b.map encE)] (.bool (sameP a b)) := by
  refine afn_enter Try.func22 rfl rfl rfl (by decide) (Nat.le_of_ble_eq_true rfl) (by kernel_rfl) fun L K hL hR hN hP => ?_
  simp -implicitDefEqProofs
  refine CallF.pure (FormP_ok' a ha) (by decide) ?_
  simp -implicitDefEqProofs
  refine CallF.pure (FormP_ok' b hb) (by decide) ?_
  simp -implicitDefEqProofs
  refine CallF.pure (EqEvs_ok _ _ (few_form ha) (few_form hb)) (by decide) ?_
  simp -implicitDefEqProofs
  exact hR _ (.pure rfl (.refl _))

def lightP (l : List EE) (most : Int) : Bool := l.all (fun e => decide (e.m.length ≤ 8)) && decide ((l.length : Int) ≤ most)

theorem Light_ok (l : List EE) (most : Int) (hl : short l) : APure TC 14 [.slice (l.map encEE), .int .i64 most] (.bool (lightP l most)) := by
  refine afn_enter Try.func14 rfl rfl rfl (by decide) (Nat.le_of_ble_eq_true rfl) (by kernel_rfl) fun L K hL hR hN hP => ?_
  simp -implicitDefEqProofs
  refine loopJ (α := Nat) (fun k => k ≤ l.length ∧ ∀ i (hi : i < l.length), i < k → l[i].m.length ≤ 8)
    (fun k => [(0, .slice (l.map encEE)), (1, .int .i64 most), (7, .slice (l.map encEE)), (8, .int .i64 l.length), (9, .int .i64 k)]) (fun _ => []) (fun k => l.length - k) 0 (by simp -implicitDefEqProofs) (turn_weak (by simp -implicitDefEqProofs) (by simp -implicitDefEqProofs) (by simp -implicitDefEqProofs)) ?_
  rintro k L1 K1 ⟨hk, hpre⟩ hL1 - hnext hex hrt - -
  simp -implicitDefEqProofs
  refine CondC.mk (fun hb => ?_) (fun hb => ?_)
  · have hlt : k < l.length := by simpa using hb
    have hx : l[k]? = some l[k] := List.getElem?_eq_getElem hlt
    simp -implicitDefEqProofs [hx, encEE]
    refine CondC.mk (fun h8 => ?_) (fun h8 => ?_)
    · simp -implicitDefEqProofs
      refine hrt _ ?_
      refine hR _ (.pure rfl ?_)
      have : lightP l most = false := by
        unfold lightP
        rw [Bool.and_eq_false_iff]; left
        rw [List.all_eq_false]
        refine ⟨l[k], List.getElem_mem _, ?_⟩
        simp -implicitDefEqProofs at h8 ⊢; omega
      rw [this]; simp -implicitDefEqProofs
    · simp -implicitDefEqProofs [wr1 k (by omega)]
      refine hnext _ (k + 1) ⟨by omega, fun i hi hik => ?_⟩ (by omega) (turn_weak (by simp -implicitDefEqProofs) (by simp -implicitDefEqProofs) (by simp -implicitDefEqProofs))
      by_cases e : i = k
      · subst e; simp -implicitDefEqProofs at h8; omega
      · exact hpre i hi (by omega)
  · refine hex _ _ ?_
    have hkn : ¬ k < l.length := by simpa using hb
    simp -implicitDefEqProofs
    refine hR _ (.pure rfl ?_)
    have : l.all (fun e => decide (e.m.length ≤ 8)) = true := by
      rw [List.all_eq_true]
      intro e he
      obtain ⟨i, hi, rfl⟩ := List.getElem_of_mem he
      have := hpre i hi (by omega)
      simpa using this
    simp -implicitDefEqProofs [lightP, this]

def eventOf (x : EE) : Ev := newE ((x.t % 5 : Nat) : Int) (marks x.m)
def eventsP (l : List EE) : List Ev := l.map eventOf

theorem marks_length (l : List Tch) : (marks l).length = l.length := by simp -implicitDefEqProofs [marks]

theorem Events_ok (l : List EE) (hl : l.length ≤ 1000) (h8 : ∀ e ∈ l, e.m.length ≤ 8 ∧ e.t ≤ 255) : APure TC 15 [.slice (l.map encEE)] (.slice ((eventsP l).map encE)) := by
  refine afn_enter Try.func15 rfl rfl rfl (by decide) (Nat.le_of_ble_eq_true rfl) (by kernel_rfl) fun L K hL hR hN hP => ?_
  simp -implicitDefEqProofs
  refine wait_turn (turn_thaw (t := 3) (el := 38) (sz := 2) (by simp -implicitDefEqProofs) (by decide)) ?_
  refine loopJ (α := Nat) (fun k => k ≤ l.length)
    (fun k => [(3, .vec (L, 0) k), (6, .slice (l.map encEE)), (7, .int .i64 l.length), (8, .int .i64 k)])
    (fun k => [((L, 0), .vec 38 2 ((eventsP (l.take k)).map encE) k true)]) (fun k => l.length - k) 0 (by simp -implicitDefEqProofs) (turn_weak (by simp -implicitDefEqProofs) (by simp -implicitDefEqProofs [eventsP]) (by simp -implicitDefEqProofs)) ?_
  rintro k L1 K1 hk hL1 - hnext hex hrt - -
  simp -implicitDefEqProofs at hL1
  have n1 : L ≠ L1 := by omega
  simp -implicitDefEqProofs
  refine CondC.mk (fun hb => ?_) (fun hb => ?_)
  · have hlt : k < l.length := by simpa using hb
    have hx : l[k]? = some l[k] := List.getElem?_eq_getElem hlt
    have hs : eventsP (l.take (k + 1)) = eventsP (l.take k) ++ [eventOf l[k]] := map_take_succ _ hlt
    have hln : (eventsP (l.take k)).length = k := by simp -implicitDefEqProofs [eventsP]; omega
    obtain ⟨q8, q9⟩ := h8 l[k] (List.getElem_mem _)
    generalize l[k] = x at hx hs q8 q9
    have ht : IntKind.i64.wrap (Int.tmod (x.t : Int) 5) = ((x.t % 5 : Nat) : Int) := by
      rw [Int.tmod_eq_emod_of_nonneg (by omega), wrap_i64] <;> omega
    simp -implicitDefEqProofs [hx, encEE, n1, n1.symm, ht]
    refine CallF.pure (Marks_ok x.m (by omega)) (by decide) ?_
    simp -implicitDefEqProofs
    refine CallF.pure (New_ok ((x.t % 5 : Nat) : Int) (marks x.m) (by rw [marks_length]; omega)) (by decide) ?_
    have c1 : k ≤ 9223372036854775806 := by omega
    have c2 : (k + 1) * 32 ≤ 140737488355328 := by omega
    simp -implicitDefEqProofs [wr1 k (by omega), n1, n1.symm, c1, c2, hln]
    exact hnext _ (k + 1) (by omega) (by omega) (turn_weak (by simp -implicitDefEqProofs) (by simp -implicitDefEqProofs [hs, eventOf]) (by simp -implicitDefEqProofs))
  · refine hex _ _ ?_
    have hkn : ¬ k < l.length := by simpa using hb
    have hkl : k = l.length := by omega
    subst hkl
    simp -implicitDefEqProofs
    exact hR _ (.pure rfl (.vec (t := 38) (s := 2) (es := (eventsP l).map encE) (wr := true) (by simp -implicitDefEqProofs) (frzL_refl _)))
end Go.Awp.R1

/- Swaps, in plain words. -/
namespace Go.Awp.B

def exch (l : List Ev) (i : Nat) : List Ev := (l.set i (at' l (i + 1))).set (i + 1) (at' l i)
/-- May an event and the next one be exchanged? -/
def mayB (l : List Ev) (i : Nat) : Bool := decide (i + 1 < l.length) && !depend (at' l i) (at' l (i + 1))
def swapP (l : List Ev) (i : Nat) : List Ev := if mayB l i = true then exch l i else l
def swap2 (l : List Ev) (i : Nat) : List Ev := if mayB l i = true then exch l i else []
def onlyP (l : List Ev) (a b : Ev) : List Ev := l.filter fun e => same e a || same e b

theorem exch_length (l : List Ev) (i : Nat) : (exch l i).length = l.length := by simp [exch]
theorem swapP_length (l : List Ev) (i : Nat) : (swapP l i).length = l.length := by unfold swapP; split <;> simp [exch_length]
theorem exch_mem {l : List Ev} {i : Nat} (h : i + 1 < l.length) : ∀ e ∈ exch l i, e ∈ l := by
  intro e he
  unfold exch at he
  rcases List.mem_or_eq_of_mem_set he with he | rfl
  · rcases List.mem_or_eq_of_mem_set he with he | rfl
    · exact he
    · exact at_mem h
  · exact at_mem (by omega)
theorem mayB_lt {l : List Ev} {i : Nat} (h : mayB l i = true) : i + 1 < l.length := by
  unfold mayB at h; simp at h; exact h.1
theorem few_swap {l : List Ev} (hl : Few l) (i : Nat) : Few (swapP l i) := by
  refine ⟨by rw [swapP_length]; exact hl.len, fun e he => ?_⟩
  unfold swapP at he
  split at he
  · rename_i h; exact hl.m _ (exch_mem (mayB_lt h) e he)
  · exact hl.m _ he
theorem few_only {l : List Ev} (hl : Few l) (a b : Ev) : Few (onlyP l a b) :=
  ⟨Nat.le_trans (List.length_filter_le _ _) hl.len, fun e he => hl.m _ (List.mem_filter.1 he).1⟩
end Go.Awp.B

/- Swaps. -/
namespace Go.Awp.R1
open Go Go.Awp Go.Proofs Go.Awp.B

theorem Clone_ok (l : List Ev) (hl : l.length ≤ 1000) : AMade TC 30 [.slice (l.map encE)] 38 2 (l.map encE) := by
  refine afn_enterT Try.func30 rfl rfl rfl (by decide) (Nat.le_of_ble_eq_true rfl) (by kernel_rfl) fun L K hL hR hN hP => ?_
  simp -implicitDefEqProofs
  refine wait_nil (es := l.map encE) (by simp -implicitDefEqProofs) (by simp -implicitDefEqProofs) (by decide) (by decide) fun b hb => ?_
  have c1 : l.length ≤ 9223372036854775807 := by omega
  have c2 : l.length * 32 ≤ 140737488355328 := by omega
  rcases b <;> simp -implicitDefEqProofs [c1, c2]
  · exact hR _ _ (Turn.refl _ _) (.made (id := (L, 0)) (ver := 1) rfl rfl (by simp -implicitDefEqProofs))
  · have : l = [] := by simpa using hb rfl
    subst this
    exact hR _ _ (turn_thaw (t := 2) (el := 38) (sz := 2) (by simp -implicitDefEqProofs) (by decide)) (.made (id := (L, 0)) (ver := 0) rfl rfl (by simp -implicitDefEqProofs))

theorem SwapL_ok (l : List Ev) (i : Nat) (hl : Few l) (hi : i ≤ 1000) : APure TC 28 [.slice (l.map encE), .int .i64 i] (.slice ((swapP l i).map encE)) := by
  have hl0 := hl.len
  refine afn_enter Try.func28 rfl rfl rfl (by decide) (Nat.le_of_ble_eq_true rfl) (by kernel_rfl) fun L K hL hR hN hP => ?_
  simp -implicitDefEqProofs
  refine CallF.made (Clone_ok l hl0) (by decide) rfl ?_
  intro L' k ver h1 h2
  have n1 : L ≠ L' := by omega
  rcases hlt : decide ((i : Int) + 1 < l.length) <;> simp -implicitDefEqProofs [wr1 i (by omega), hlt]
  · refine hR _ (.pure rfl ?_)
    have : swapP l i = l := by simp -implicitDefEqProofs [swapP, mayB]; simp -implicitDefEqProofs at hlt; omega
    rw [this]
    exact .vec (t := 38) (s := 2) (es := l.map encE) (wr := true) (by simp -implicitDefEqProofs) (frzL_refl _)
  · have q1 : i + 1 < l.length := by simp -implicitDefEqProofs at hlt; omega
    have q0 : i < l.length := by omega
    simp -implicitDefEqProofs [at_get q0, at_get q1, wr1 i (by omega)]
    refine CallF.pure (Depend_ok (at' l i) (at' l (i + 1)) (hl.at q0) (hl.at q1)) (by decide) ?_
    have g0 : l[i] = at' l i := (at_eq q0).symm
    have g1 : l[i + 1] = at' l (i + 1) := (at_eq q1).symm
    rcases hd : depend (at' l i) (at' l (i + 1)) <;> simp -implicitDefEqProofs [wr1 i (by omega), q0, q1, g0, g1]
    · refine hR _ (.pure rfl ?_)
      have : swapP l i = exch l i := by simp -implicitDefEqProofs [swapP, mayB, hd, q1]
      rw [this]
      refine .vec (t := 38) (s := 2) (es := (exch l i).map encE) (wr := true) ?_ (frzL_refl _)
      simp -implicitDefEqProofs [exch, List.map_set]
    · refine hR _ (.pure rfl ?_)
      have : swapP l i = l := by simp -implicitDefEqProofs [swapP, mayB, hd]
      rw [this]
      exact .vec (t := 38) (s := 2) (es := l.map encE) (wr := true) (by simp -implicitDefEqProofs) (frzL_refl _)

theorem SwapB_ok (l : List Ev) (i : Nat) (hl : Few l) (hi : i ≤ 1000) : APure TC 26 [.slice (l.map encE), .int .i64 i] (.tup [.slice ((swap2 l i).map encE), .bool (mayB l i)]) := by
  have hl0 := hl.len
  refine afn_enter Try.func26 rfl rfl rfl (by decide) (Nat.le_of_ble_eq_true rfl) (by kernel_rfl) fun L K hL hR hN hP => ?_
  have w1 : IntKind.i64.wrap ((l.length : Int) - 1) = l.length - 1 := wrap_i64 (by omega) (by omega)
  have i0 : ¬ (i : Int) < 0 := by omega
  rcases hlt : decide ((i : Int) ≥ l.length - 1) <;> simp -implicitDefEqProofs [w1, hlt, i0]
  · have q1 : i + 1 < l.length := by simp -implicitDefEqProofs at hlt; omega
    have q0 : i < l.length := by omega
    simp -implicitDefEqProofs [wr1 i (by omega), at_get q0, at_get q1]
    refine CallF.pure (Depend_ok (at' l i) (at' l (i + 1)) (hl.at q0) (hl.at q1)) (by decide) ?_
    have g0 : l[i] = at' l i := (at_eq q0).symm
    have g1 : l[i + 1] = at' l (i + 1) := (at_eq q1).symm
    rcases hd : depend (at' l i) (at' l (i + 1)) <;> simp -implicitDefEqProofs
    · refine CallF.made (Clone_ok l hl0) (by decide) rfl ?_
      intro L' k ver h1 h2
      have n1 : L ≠ L' := by omega
      simp -implicitDefEqProofs [wr1 i (by omega), q0, q1, g0, g1]
      refine hR _ (.pures rfl (by simp -implicitDefEqProofs) ?_)
      have e1 : swap2 l i = exch l i := by simp -implicitDefEqProofs [swap2, mayB, hd, q1]
      have e2 : mayB l i = true := by simp -implicitDefEqProofs [mayB, hd, q1]
      rw [e1, e2]
      refine .tup (.cons (.vec (t := 38) (s := 2) (es := (exch l i).map encE) (wr := true) ?_ (frzL_refl _)) (.cons (.refl _) .nil))
      simp -implicitDefEqProofs [exch, List.map_set]
    · refine hR _ (.pures rfl (by simp -implicitDefEqProofs) ?_)
      have e2 : mayB l i = false := by simp -implicitDefEqProofs [mayB, hd]
      have e1 : swap2 l i = [] := by simp -implicitDefEqProofs [swap2, e2]
      rw [e1, e2]
      exact .tup (.cons .snil (.cons (.refl _) .nil))
  · refine hR _ (.pures rfl (by simp -implicitDefEqProofs) ?_)
    have e2 : mayB l i = false := by simp -implicitDefEqProofs [mayB]; simp -implicitDefEqProofs at hlt; omega
    have e1 : swap2 l i = [] := by simp -implicitDefEqProofs [swap2, e2]
    rw [e1, e2]
    exact .tup (.cons .snil (.cons (.refl _) .nil))

theorem Only_ok (l : List Ev) (a b : Ev) (hl : Few l) (ha : short a.m) (hb : short b.m) : APure TC 32 [.slice (l.map encE), encE a, encE b] (.slice ((onlyP l a b).map encE)) := by
  have hl0 := hl.len
  refine afn_enter Try.func32 rfl rfl rfl (by decide) (Nat.le_of_ble_eq_true rfl) (by kernel_rfl) fun L K hL hR hN hP => ?_
  simp -implicitDefEqProofs
  refine wait_turn (turn_thaw (t := 7) (el := 38) (sz := 2) (by simp -implicitDefEqProofs) (by decide)) ?_
  refine loopJ (α := Nat × List Ev) (fun x => x.1 ≤ l.length ∧ x.2 = (l.take x.1).filter (fun e => same e a || same e b) ∧ x.2.length ≤ x.1)
    (fun x => [(4, .ptr (L, 0) 0), (5, .ptr (L, 1) 0), (7, .vec (L, 2) x.2.length), (10, .slice (l.map encE)), (11, .int .i64 l.length), (12, .int .i64 x.1)])
    (fun x => [((L, 2), .vec 38 2 (x.2.map encE) x.2.length true), ((L, 1), .cells 38 [.int .i64 b.t, .slice (b.m.map encM)]), ((L, 0), .cells 38 [.int .i64 a.t, .slice (a.m.map encM)])]) (fun x => l.length - x.1) (0, []) (by simp -implicitDefEqProofs) (turn_weak (by simp -implicitDefEqProofs) (by simp -implicitDefEqProofs) (by simp -implicitDefEqProofs)) ?_
  rintro ⟨k, out⟩ L1 K1 ⟨hk, hout, hlen⟩ hL1 - hnext hex hrt - -
  simp -implicitDefEqProofs at hk hout hlen hL1
  have n1 : L ≠ L1 := by omega
  simp -implicitDefEqProofs
  refine CondC.mk (fun hc => ?_) (fun hc => ?_)
  · have hlt : k < l.length := by simpa using hc
    have hx : l[k]? = some l[k] := List.getElem?_eq_getElem hlt
    have hm : short l[k].m := by have := hl.m _ (List.getElem_mem hlt); show _ ≤ _; omega
    have hfs := filter_take_succ (fun e => same e a || same e b) hlt
    rw [← hout] at hfs
    generalize l[k] = e at hx hm hfs
    have c1 : out.length ≤ 9223372036854775806 := by omega
    have c2 : (out.length + 1) * 32 ≤ 140737488355328 := by omega
    simp -implicitDefEqProofs [hx, n1, n1.symm]
    refine CallF.pure (Same_ok e a hm ha) (by decide) ?_
    rcases h1 : same e a <;> simp -implicitDefEqProofs [n1, n1.symm]
    · refine CallF.pure (Same_ok e b hm hb) (by decide) ?_
      rcases h2 : same e b <;> simp -implicitDefEqProofs [n1, n1.symm, c1, c2, wr1 k (by omega)]
      · exact hnext _ (k + 1, out) ⟨by simp -implicitDefEqProofs; omega, by rw [hfs]; simp -implicitDefEqProofs [h1, h2], by simp -implicitDefEqProofs; omega⟩ (by simp -implicitDefEqProofs; omega) (turn_weak (by simp -implicitDefEqProofs) (by simp -implicitDefEqProofs) (by simp -implicitDefEqProofs))
      · exact hnext _ (k + 1, out ++ [e]) ⟨by simp -implicitDefEqProofs; omega, by rw [hfs]; simp -implicitDefEqProofs [h1, h2], by simp -implicitDefEqProofs; omega⟩ (by simp -implicitDefEqProofs; omega) (turn_weak (by simp -implicitDefEqProofs) (by simp -implicitDefEqProofs) (by simp -implicitDefEqProofs))
    · simp -implicitDefEqProofs [c1, c2, wr1 k (by omega)]
      exact hnext _ (k + 1, out ++ [e]) ⟨by simp -implicitDefEqProofs; omega, by rw [hfs]; simp -implicitDefEqProofs [h1], by simp -implicitDefEqProofs; omega⟩ (by simp -implicitDefEqProofs; omega) (turn_weak (by simp -implicitDefEqProofs) (by simp -implicitDefEqProofs) (by simp -implicitDefEqProofs))
  · refine hex _ _ ?_
    have hkn : ¬ k < l.length := by simpa using hc
    rw [List.take_of_length_le (by omega)] at hout
    simp -implicitDefEqProofs
    refine hR _ (.pure rfl ?_)
    rw [show onlyP l a b = out from hout.symm]
    exact .vec (t := 38) (s := 2) (es := out.map encE) (wr := true) (by simp -implicitDefEqProofs) (frzL_refl _)
end Go.Awp.R1

/- Clocks, in plain words. -/
namespace Go.Awp.B

/-- Threads are small numbers. -/
def Thr (l : List Ev) : Prop := ∀ e ∈ l, 0 ≤ e.t ∧ e.t ≤ 1000

def bump (c : List Nat) (t : Nat) : List Nat := c.modify t (· + 1)
def mixS (l : List Ev) (out : List (List Nat)) (j : Nat) (c : List Nat) (i : Nat) : List Nat :=
  if depend (at' l i) (at' l j) = true then List.zipWith max c (out.getD i []) else c
def clockRow (l : List Ev) (T : Nat) (out : List (List Nat)) (j : Nat) : List Nat :=
  bump ((List.range j).foldl (mixS l out j) (List.replicate T 0)) (at' l j).t.toNat
def clocksN (l : List Ev) (T k : Nat) : List (List Nat) := (List.range k).foldl (fun out j => out ++ [clockRow l T out j]) []
def clocksP (l : List Ev) (T : Nat) : List (List Nat) := clocksN l T l.length
def threadsP (l : List Ev) : Nat := l.foldl (fun m e => max m (e.t.toNat + 1)) 0
def nthS (s : List Nat × List Nat) (e : Ev) : List Nat × List Nat := (bump s.1 e.t.toNat, s.2 ++ [(bump s.1 e.t.toNat).getD e.t.toNat 0])
def nthP (l : List Ev) : List Nat := (l.foldl nthS (List.replicate (threadsP l) 0, [])).2
def beforeP (l : List Ev) (i j : Nat) : Bool :=
  decide (i < j) && decide (j < l.length) && decide ((nthP l).getD i 0 ≤ ((clocksP l (threadsP l)).getD j []).getD (at' l i).t.toNat 0)

theorem clocksN_succ (l : List Ev) (T k : Nat) : clocksN l T (k + 1) = clocksN l T k ++ [clockRow l T (clocksN l T k) k] := by
  unfold clocksN; rw [List.range_succ, List.foldl_append]; rfl
theorem clocksN_length (l : List Ev) (T k : Nat) : (clocksN l T k).length = k := by
  induction k with
  | zero => rfl
  | succ k ih => rw [clocksN_succ]; simp [ih]
theorem bump_length (c : List Nat) (t : Nat) : (bump c t).length = c.length := by simp [bump]
theorem mix_length {l : List Ev} {T j : Nat} {out : List (List Nat)} (ho : ∀ c ∈ out, c.length = T) (hj : j ≤ out.length) (k : Nat) (hk : k ≤ j) : ((List.range k).foldl (mixS l out j) (List.replicate T 0)).length = T := by
  induction k with
  | zero => simp
  | succ k ih =>
    have := ih (by omega)
    rw [List.range_succ, List.foldl_append]
    simp only [List.foldl_cons, List.foldl_nil]
    unfold mixS
    split
    · rw [List.length_zipWith]
      have hlt : k < out.length := by omega
      have : (out.getD k []).length = T := by
        rw [List.getD_eq_getElem?_getD, List.getElem?_eq_getElem hlt]; exact ho _ (List.getElem_mem _)
      have e := ‹((List.range k).foldl (mixS l out j) (List.replicate T 0)).length = T›
      unfold mixS at e
      rw [this, e, Nat.min_self]
    · exact this
theorem clocksN_rows (l : List Ev) (T k : Nat) : ∀ c ∈ clocksN l T k, c.length = T := by
  induction k with
  | zero => simp [clocksN]
  | succ k ih =>
    rw [clocksN_succ]
    intro c hc
    rcases List.mem_append.1 hc with hc | hc
    · exact ih c hc
    · rw [List.mem_singleton.1 hc]
      unfold clockRow
      rw [bump_length]
      exact mix_length ih (by rw [clocksN_length]; exact Nat.le_refl _) k (Nat.le_refl _)
theorem zip_bound {B : Nat} {c d : List Nat} (h1 : ∀ x ∈ c, x ≤ B) (h2 : ∀ x ∈ d, x ≤ B) : ∀ x ∈ List.zipWith max c d, x ≤ B := by
  intro x hx
  obtain ⟨i, hi, rfl⟩ := List.getElem_of_mem hx
  rw [List.getElem_zipWith]
  exact Nat.max_le.2 ⟨h1 _ (List.getElem_mem _), h2 _ (List.getElem_mem _)⟩
theorem mix_bound {l : List Ev} {j B : Nat} {out : List (List Nat)} (ho : ∀ c ∈ out, ∀ x ∈ c, x ≤ B) (is : List Nat) (c : List Nat) (hc : ∀ x ∈ c, x ≤ B) : ∀ x ∈ is.foldl (mixS l out j) c, x ≤ B := by
  induction is generalizing c with
  | nil => exact hc
  | cons i is ih =>
    refine ih _ ?_
    unfold mixS
    split
    · refine zip_bound hc ?_
      rw [List.getD_eq_getElem?_getD]
      cases h : out[i]? with
      | none => simp
      | some d => exact ho d (List.mem_of_getElem? h)
    · exact hc
theorem bump_bound {B : Nat} {c : List Nat} (h : ∀ x ∈ c, x ≤ B) (t : Nat) : ∀ x ∈ bump c t, x ≤ B + 1 := by
  intro x hx
  obtain ⟨i, hi, rfl⟩ := List.getElem_of_mem hx
  have hi2 : i < c.length := by rw [bump_length] at hi; exact hi
  have e : (bump c t)[i] = if t = i then c[i] + 1 else c[i] := List.getElem_modify (· + 1) t c i hi
  have := h c[i] (List.getElem_mem hi2)
  rw [e]
  split <;> omega
theorem clocksN_bound (l : List Ev) (T k : Nat) : ∀ c ∈ clocksN l T k, ∀ x ∈ c, x ≤ k := by
  induction k with
  | zero => simp [clocksN]
  | succ k ih =>
    rw [clocksN_succ]
    intro c hc
    rcases List.mem_append.1 hc with hc | hc
    · intro x hx; have := ih c hc x hx; omega
    · rw [List.mem_singleton.1 hc]
      exact bump_bound (mix_bound ih _ _ (by intro x hx; have := (List.mem_replicate.1 hx).2; omega)) _
theorem threads_le {l : List Ev} (h : Thr l) : threadsP l ≤ 1001 := by
  have : ∀ (l : List Ev) (m : Nat), Thr l → m ≤ 1001 → l.foldl (fun m e => max m (e.t.toNat + 1)) m ≤ 1001 := by
    intro l
    induction l with
    | nil => intro m _ h; exact h
    | cons e l ih =>
      intro m ht hm
      have he := ht e List.mem_cons_self
      exact ih _ (fun x hx => ht x (List.mem_cons_of_mem _ hx)) (by show max m (e.t.toNat + 1) ≤ 1001; omega)
  exact this l 0 h (by omega)
theorem threads_gt {l : List Ev} {e : Ev} (he : e ∈ l) : e.t.toNat < threadsP l := by
  have key : ∀ (l : List Ev) (m : Nat), m ≤ l.foldl (fun m e => max m (e.t.toNat + 1)) m ∧ ∀ e ∈ l, e.t.toNat < l.foldl (fun m e => max m (e.t.toNat + 1)) m := by
    intro l
    induction l with
    | nil => intro m; exact ⟨Nat.le_refl _, by simp⟩
    | cons x l ih =>
      intro m
      obtain ⟨h1, h2⟩ := ih (max m (x.t.toNat + 1))
      refine ⟨by simp only [List.foldl_cons]; omega, fun e he => ?_⟩
      simp only [List.foldl_cons]
      rcases List.mem_cons.1 he with rfl | he
      · omega
      · exact h2 e he
  exact (key l 0).2 e he
theorem nthS_len (l : List Ev) (s : List Nat × List Nat) : (l.foldl nthS s).2.length = s.2.length + l.length ∧ (l.foldl nthS s).1.length = s.1.length := by
  induction l generalizing s with
  | nil => simp
  | cons e l ih => rw [List.foldl_cons]; obtain ⟨h1, h2⟩ := ih (nthS s e); rw [h1, h2]; simp [nthS, bump_length]; omega
theorem nthP_length (l : List Ev) : (nthP l).length = l.length := by unfold nthP; rw [(nthS_len _ _).1]; simp
end Go.Awp.B

/- Clocks. -/
namespace Go.Awp.R1
open Go Go.Awp Go.Proofs Go.Awp.B

def encR (c : List Nat) : V := .slice (c.map encI)
attribute [simp] encR

theorem zip_step {c d : List Nat} {t : Nat} (h1 : t < c.length) (h2 : t < d.length) : ((List.zipWith max (c.take t) (d.take t) ++ c.drop t).set t (max c[t] d[t])) = List.zipWith max (c.take (t + 1)) (d.take (t + 1)) ++ c.drop (t + 1) := by
  have hl : (List.zipWith max (c.take t) (d.take t)).length = t := by simp -implicitDefEqProofs; omega
  rw [List.set_append, if_neg (by omega), hl, Nat.sub_self, List.drop_eq_getElem_cons h1, List.set_cons_zero]
  rw [List.take_add_one, List.take_add_one, List.getElem?_eq_getElem h1, List.getElem?_eq_getElem h2]
  rw [List.zipWith_append (by simp -implicitDefEqProofs; omega)]
  simp -implicitDefEqProofs

theorem Clocks_ok (l : List Ev) (T : Nat) (hl : Few l) (ht : Thr l) (hT : T ≤ 2000) : APure TC 66 [.slice (l.map encE), .int .i64 T] (.slice ((clocksP l T).map encR)) := by
  have hl0 := hl.len
  refine afn_enter Try.func66 rfl rfl rfl (by decide) (Nat.le_of_ble_eq_true rfl) (by kernel_rfl) fun L K hL hR hN hP => ?_
  simp -implicitDefEqProofs
  refine wait_turn (turn_thaw (t := 5) (el := 28) (sz := 1) (by simp -implicitDefEqProofs) (by decide)) ?_
  refine loopJ (α := Nat) (fun k => k ≤ l.length)
    (fun k => [(0, .slice (l.map encE)), (1, .int .i64 T), (5, .vec (L, 0) k), (12, .slice (l.map encE)), (13, .int .i64 l.length), (14, .int .i64 k)])
    (fun k => [((L, 0), .vec 28 1 ((clocksN l T k).map encR) k true)]) (fun k => l.length - k) 0 (by simp -implicitDefEqProofs) (turn_weak (by simp -implicitDefEqProofs) (by simp -implicitDefEqProofs [clocksN]) (by simp -implicitDefEqProofs)) ?_
  rintro j L1 K1 hj hL1 - hnext hex hrt - -
  simp -implicitDefEqProofs at hL1
  have n1 : L ≠ L1 := by omega
  simp -implicitDefEqProofs
  refine CondC.mk (fun hb => ?_) (fun hb => ?_)
  · have hlt : j < l.length := by simpa using hb
    have hout := clocksN_rows l T j
    have hbd := clocksN_bound l T j
    have hol := clocksN_length l T j
    have hsucc := clocksN_succ l T j
    generalize clocksN l T j = out at *
    have hej := hl.at hlt
    have htj := ht _ (at_mem hlt)
    have m1 : (if (0 : Int) > (T : Int) then (0 : Int) else T) = T := by split <;> omega
    have m2 : (T : Int) ≤ 9223372036854775807 := by omega
    have m3 : T * 8 ≤ 140737488355328 := by omega
    simp -implicitDefEqProofs [at_get hlt, n1, n1.symm, m1, m2, m3]
    refine loopJ (α := Nat × List Nat) (fun x => x.1 ≤ j ∧ x.2 = (List.range x.1).foldl (mixS l out j) (List.replicate T 0))
      (fun x => [(0, .slice (l.map encE)), (1, .int .i64 T), (5, .vec (L, 0) j), (7, .ptr (L1, 0) 0), (8, .vec (L1, 1) 1), (12, .slice (l.map encE)), (13, .int .i64 l.length), (14, .int .i64 j), (22, .int .i64 j), (23, .int .i64 x.1)])
      (fun x => [((L1, 1), .vec 3 1 (x.2.map encI) 1 true), ((L1, 0), .cells 38 (encE (at' l j)).cells), ((L, 0), .vec 28 1 (out.map encR) j true)]) (fun x => j - x.1) (0, List.replicate T 0) (by simp -implicitDefEqProofs) (turn_weak (by simp -implicitDefEqProofs) (by simp -implicitDefEqProofs) (by simp -implicitDefEqProofs)) ?_
    rintro ⟨i, c⟩ L2 K2 ⟨hi, hc⟩ hL2 - hnext2 hex2 hrt2 - -
    simp -implicitDefEqProofs at hi hc hL2
    have n2 : L ≠ L2 := by omega
    have n3 : L1 ≠ L2 := by omega
    have hcl : c.length = T := by rw [hc]; exact mix_length hout (by omega) i hi
    simp -implicitDefEqProofs
    refine CondC.mk (fun hb => ?_) (fun hb => ?_)
    · have hij : i < j := by simpa using hb
      have hil : i < l.length := by omega
      have hio : i < out.length := by omega
      have hfs : (List.range (i + 1)).foldl (mixS l out j) (List.replicate T 0) = mixS l out j c i := by rw [List.range_succ, List.foldl_append, hc]; rfl
      simp -implicitDefEqProofs [at_get hil, n1, n1.symm]
      refine CallF.pure (Depend_ok (at' l i) (at' l j) (hl.at hil) hej) (by decide) ?_
      rcases hd : depend (at' l i) (at' l j) <;> simp -implicitDefEqProofs [wr1 i (by omega)]
      · exact hnext2 _ (i + 1, c) ⟨by simp -implicitDefEqProofs; omega, by rw [hfs]; simp -implicitDefEqProofs [mixS, hd]⟩ (by simp -implicitDefEqProofs; omega) (turn_weak (by simp -implicitDefEqProofs) (by simp -implicitDefEqProofs) (by simp -implicitDefEqProofs))
      · have hdl : (out.getD i []).length = T := by rw [List.getD_eq_getElem?_getD, List.getElem?_eq_getElem hio]; exact hout _ (List.getElem_mem _)
        have hoi : out[i] = out.getD i [] := by rw [List.getD_eq_getElem?_getD, List.getElem?_eq_getElem hio]; rfl
        generalize out.getD i [] = d at hdl hoi
        have hms : mixS l out j c i = List.zipWith max c d := by
          unfold mixS; rw [if_pos hd, List.getD_eq_getElem?_getD, List.getElem?_eq_getElem hio, hoi]; rfl
        simp -implicitDefEqProofs [n1, n1.symm, hio, hol, hij, hoi]
        refine loopJ (α := Nat × List Nat) (fun x => x.1 ≤ T ∧ x.2 = List.zipWith max (c.take x.1) (d.take x.1) ++ c.drop x.1)
          (fun x => [(0, .slice (l.map encE)), (1, .int .i64 T), (5, .vec (L, 0) j), (7, .ptr (L1, 0) 0), (8, .vec (L1, 1) 1), (12, .slice (l.map encE)), (13, .int .i64 l.length), (14, .int .i64 j), (22, .int .i64 j), (23, .int .i64 i), (35, .slice (d.map encI)), (36, .int .i64 T), (37, .int .i64 x.1)])
          (fun x => [((L1, 1), .vec 3 1 (x.2.map encI) 1 true), ((L1, 0), .cells 38 (encE (at' l j)).cells), ((L, 0), .vec 28 1 (out.map encR) j true)]) (fun x => T - x.1) (0, c) (by simp -implicitDefEqProofs) (turn_weak (by simp -implicitDefEqProofs [hdl]) (by simp -implicitDefEqProofs) (by simp -implicitDefEqProofs)) ?_
        rintro ⟨t, c'⟩ L3 K3 ⟨htT, hc'⟩ hL3 - hnext3 hex3 hrt3 - -
        simp -implicitDefEqProofs at htT hc' hL3
        have n4 : L ≠ L3 := by omega
        have n5 : L1 ≠ L3 := by omega
        simp -implicitDefEqProofs
        refine CondC.mk (fun hb => ?_) (fun hb => ?_)
        · have htl : t < T := by simpa using hb
          have q1 : t < c.length := by omega
          have q2 : t < d.length := by omega
          have hl' : c'.length = T := by rw [hc']; simp -implicitDefEqProofs; omega
          have q3 : t < c'.length := by omega
          have hz := zip_step q1 q2
          rw [← hc'] at hz
          have hct : c'[t] = c[t] := by
            have : c'[t]? = some c[t] := by
              rw [hc', List.getElem?_append_right (by simp -implicitDefEqProofs; omega), List.getElem?_drop]
              simp only [List.length_zipWith, List.length_take]
              rw [show t + (t - min (min t c.length) (min t d.length)) = t by omega, List.getElem?_eq_getElem q1]
            rw [List.getElem?_eq_getElem q3] at this; simpa using this
          generalize hcv : c[t] = a at *
          generalize hdv : d[t] = b at *
          have hmx : (if a < b then (b : Int) else a) = ((max a b : Nat) : Int) := by split <;> omega
          simp -implicitDefEqProofs [n1, n1.symm, q2, q3, hdv, hct, hmx, wr1 t (by omega)]
          exact hnext3 _ (t + 1, c'.set t (max a b)) ⟨by simp -implicitDefEqProofs; omega, hz⟩ (by simp -implicitDefEqProofs; omega) (turn_weak (by simp -implicitDefEqProofs) (by simp -implicitDefEqProofs [List.map_set]) (by simp -implicitDefEqProofs))
        · refine hex3 _ _ ?_
          have htl : ¬ t < T := by simpa using hb
          have e : c' = List.zipWith max c d := by rw [hc', List.take_of_length_le (by omega), List.take_of_length_le (by omega), List.drop_eq_nil_of_le (by omega), List.append_nil]
          simp -implicitDefEqProofs [wr1 i (by omega)]
          exact hnext2 _ (i + 1, c') ⟨by simp -implicitDefEqProofs; omega, by rw [hfs, hms, e]⟩ (by simp -implicitDefEqProofs; omega) (turn_weak (by simp -implicitDefEqProofs) (by simp -implicitDefEqProofs) (by simp -implicitDefEqProofs))
    · refine hex2 _ _ ?_
      have hij : ¬ i < j := by simpa using hb
      have hii : i = j := by omega
      subst hii
      have hrow : clockRow l T out i = bump c (at' l i).t.toNat := by unfold clockRow; rw [hc]
      have c1 : out.length ≤ 9223372036854775806 := by omega
      have c2 : (out.length + 1) * 24 ≤ 140737488355328 := by omega
      have c3 : i ≤ 9223372036854775806 := by omega
      have c4 : (i + 1) * 24 ≤ 140737488355328 := by omega
      obtain ⟨tn, htn⟩ : ∃ tn : Nat, (at' l i).t = tn := ⟨(at' l i).t.toNat, by omega⟩
      have fin : ∀ τ' cs c2, (∀ p, p ∈ [((0 : Nat), V.slice (l.map encE)), (1, .int .i64 T), (5, .vec (L, 0) (i + 1)), (12, .slice (l.map encE)), (13, .int .i64 l.length), (14, .int .i64 (i + 1 : Nat))] → τ'.lookup p.1 = some p.2) → c2 = bump c (at' l i).t.toNat →
          Turn TC ⟨τ', [((L1, 1), .vec 3 1 (c2.map encI) 1 true), ((L1, 0), .cells 38 cs), ((L, 0), .vec 28 1 (out.map encR ++ [.vec (L1, 1) 1]) (i + 1) true)], 76, L, 1⟩
            ⟨[(0, .slice (l.map encE)), (1, .int .i64 T), (5, .vec (L, 0) (i + 1)), (12, .slice (l.map encE)), (13, .int .i64 l.length), (14, .int .i64 (i + 1 : Nat))], [((L, 0), .vec 28 1 ((clocksN l T (i + 1)).map encR) (i + 1) true)], 76, L, 1⟩ := fun τ' cs c2 hτ hc2 => by
        refine turn_frz [((L1, 1), .vec 3 1 (c2.map encI) 1 true)] [((L, 0), .vec 28 1 (out.map encR ++ [.vec (L1, 1) 1]) (i + 1) true)] (fun p hp => ⟨p.2, hτ p hp, .refl _⟩) (by simp -implicitDefEqProofs) (by simp -implicitDefEqProofs) (by simp -implicitDefEqProofs) (by simp -implicitDefEqProofs [n1, n1.symm]) ?_
        rw [hsucc, hrow, ← hc2]
        simp only [List.map_append, List.map_cons, List.map_nil]
        exact .cons (.vec (frzL_append (frzL_refl _) (.cons (.vec (t := 3) (s := 1) (es := c2.map encI) (wr := true) (by simp -implicitDefEqProofs) (frzL_refl _)) .nil))) .nil
      have ht0 : (0 : Int) ≤ (at' l i).t := htj.1
      rcases htc : decide (tn < T) <;> simp -implicitDefEqProofs [n1, n1.symm, htn, hcl, htc, c3, c4, hol, wr1 i (by omega)]
      · have : bump c tn = c := by unfold bump; rw [List.modify_eq_self]; simp -implicitDefEqProofs at htc; omega
        refine hnext _ (i + 1) (by omega) (by omega) (fin _ _ c (by simp -implicitDefEqProofs) (by rw [htn]; simp -implicitDefEqProofs [this]))
      · have q1 : tn < c.length := by simp -implicitDefEqProofs at htc; omega
        have q2 : tn < T := by omega
        have hcs : (c.map encI).set tn (.int .i64 ((c[tn] + 1 : Nat) : Int)) = (bump c tn).map encI := by
          unfold bump; rw [map_modify encI _ q1]; rfl
        have hv : c[tn] ≤ i := mix_bound hbd (List.range i) (List.replicate T 0) (by intro x hx; have := (List.mem_replicate.1 hx).2; omega) c[tn] (by rw [← hc]; exact List.getElem_mem _)
        simp -implicitDefEqProofs [n1, n1.symm, htn, hcl, c3, c4, hol, wr1 i (by omega), wr1 c[tn] (by omega), q2, q1]
        refine hnext _ (i + 1) (by omega) (by omega) ?_
        have h := fun τ' cs hτ => fin τ' cs (bump c tn) hτ (by rw [htn]; simp -implicitDefEqProofs)
        simp only [← hcs] at h
        exact h _ _ (by simp -implicitDefEqProofs)
  · refine hex _ _ ?_
    have hkn : ¬ j < l.length := by simpa using hb
    have hjl : j = l.length := by omega
    subst hjl
    simp -implicitDefEqProofs
    exact hR _ (.pure rfl (.vec (t := 28) (s := 1) (es := (clocksP l T).map encR) (wr := true) (by simp -implicitDefEqProofs [clocksP]) (frzL_refl _)))
end Go.Awp.R1

/- Orders: what happens ahead of what. -/
namespace Go.Awp.R1
open Go Go.Awp Go.Proofs Go.Awp.B

def encO (l : List Ev) : V := .agg [.slice (l.map encE), .slice ((clocksP l (threadsP l)).map encR), .slice ((nthP l).map encI)]

theorem many_bound (l : List Ev) (s : List Nat × List Nat) (B : Nat) (h : ∀ x ∈ s.1, x ≤ B) : ∀ x ∈ (l.foldl nthS s).1, x ≤ B + l.length := by
  induction l generalizing s B with
  | nil => simpa using h
  | cons e l ih =>
    intro x hx
    have := ih (nthS s e) (B + 1) (bump_bound h _) x hx
    simp -implicitDefEqProofs; omega

theorem NewO_ok (l : List Ev) (hl : Few l) (ht : Thr l) : APure TC 54 [.slice (l.map encE)] (encO l) := by
  have hl0 := hl.len
  have hT := threads_le ht
  have hgt := fun {e : Ev} (he : e ∈ l) => threads_gt he
  refine afn_enter Try.func54 rfl rfl rfl (by decide) (Nat.le_of_ble_eq_true rfl) (by kernel_rfl) fun L K hL hR hN hP => ?_
  simp -implicitDefEqProofs
  refine loopJ (α := Nat × Nat) (fun x => x.1 ≤ l.length ∧ x.2 = (l.take x.1).foldl (fun m e => max m (e.t.toNat + 1)) 0)
    (fun x => [(0, .slice (l.map encE)), (2, .ptr (L, 0) 0), (3, .int .i64 x.2), (10, .slice (l.map encE)), (11, .int .i64 l.length), (12, .int .i64 x.1)])
    (fun x => [((L, 0), .cells 79 [.snil, .snil, .snil])]) (fun x => l.length - x.1) (0, 0) (by simp -implicitDefEqProofs) (turn_weak (by simp -implicitDefEqProofs) (by simp -implicitDefEqProofs) (by simp -implicitDefEqProofs)) ?_
  rintro ⟨k, m⟩ L1 K1 ⟨hk, hm⟩ hL1 - hnext hex hrt - -
  simp -implicitDefEqProofs at hk hm hL1
  have n1 : L ≠ L1 := by omega
  simp -implicitDefEqProofs
  refine CondC.mk (fun hb => ?_) (fun hb => ?_)
  · have hlt : k < l.length := by simpa using hb
    have hfs := fold_succ (fun m (e : Ev) => max m (e.t.toNat + 1)) 0 hlt
    rw [← hm] at hfs
    obtain ⟨q1, q2⟩ := ht l[k] (List.getElem_mem _)
    have hx : l[k]? = some l[k] := List.getElem?_eq_getElem hlt
    generalize l[k] = e at hfs q1 q2 hx
    obtain ⟨tn, htn⟩ : ∃ tn : Nat, e.t = tn := ⟨e.t.toNat, by omega⟩
    have hmx : (if (m : Int) < (tn : Int) + 1 then (tn : Int) + 1 else m) = ((max m (tn + 1) : Nat) : Int) := by split <;> omega
    simp -implicitDefEqProofs [hx, n1, n1.symm, htn, wr1 tn (by omega), wr1 k (by omega), hmx]
    exact hnext _ (k + 1, max m (tn + 1)) ⟨by simp -implicitDefEqProofs; omega, by rw [hfs, htn]; rfl⟩ (by simp -implicitDefEqProofs; omega) (turn_weak (by simp -implicitDefEqProofs) (by simp -implicitDefEqProofs) (by simp -implicitDefEqProofs))
  · refine hex _ _ ?_
    have hkn : ¬ k < l.length := by simpa using hb
    rw [List.take_of_length_le (by omega)] at hm
    have hm : m = threadsP l := hm
    rw [← hm] at hT hgt
    have c0 : m * 8 ≤ 140737488355328 := by omega
    have c1 : (m : Int) ≤ 9223372036854775807 := by omega
    simp -implicitDefEqProofs
    refine CallF.pure (Clocks_ok l m hl ht (by omega)) (by decide) ?_
    simp -implicitDefEqProofs [c0, c1]
    refine wait_turn (turn_thawC (id := (L, 1)) (t := 79) (o := 2) (el := 3) (sz := 1) (cs := [.slice (l.map encE), .slice ((clocksP l m).map encR), .snil]) (by simp -implicitDefEqProofs) rfl (by decide)) ?_
    simp -implicitDefEqProofs
    refine loopJ (α := Nat × List Nat × List Nat) (fun x => x.1 ≤ l.length ∧ (x.2.1, x.2.2) = (l.take x.1).foldl nthS (List.replicate m 0, []))
      (fun x => [(2, .ptr (L, 0) 0), (6, .ptr (L, 1) 0), (7, .vec (L, 2) 1), (29, .slice (l.map encE)), (30, .int .i64 l.length), (31, .int .i64 x.1)])
      (fun x => [((L, 3), .vec 3 1 (x.2.2.map encI) x.1 true), ((L, 2), .vec 3 1 (x.2.1.map encI) 1 true), ((L, 1), .cells 79 [.slice (l.map encE), .slice ((clocksP l m).map encR), .vec (L, 3) x.1]), ((L, 0), .cells 79 [.snil, .snil, .snil])])
      (fun x => l.length - x.1) (0, List.replicate m 0, []) (by simp -implicitDefEqProofs) (turn_weak (by simp -implicitDefEqProofs) (by simp -implicitDefEqProofs) (by simp -implicitDefEqProofs)) ?_
    rintro ⟨j, many, nth⟩ L2 K2 ⟨hj, hs⟩ hL2 - hnext2 hex2 hrt2 - -
    simp -implicitDefEqProofs at hj hs hL2
    have n2 : L ≠ L2 := by omega
    have hlen := nthS_len (l.take j) (List.replicate m 0, [])
    have hmb := many_bound (l.take j) (List.replicate m 0, []) 0 (by intro x hx; have := (List.mem_replicate.1 hx).2; omega)
    rw [← hs] at hlen hmb
    obtain ⟨hnl, hml⟩ := hlen
    simp -implicitDefEqProofs at hnl hml hmb
    rw [Nat.min_eq_left hj] at hnl
    simp -implicitDefEqProofs
    refine CondC.mk (fun hb => ?_) (fun hb => ?_)
    · have hlt : j < l.length := by simpa using hb
      have hfs := fold_succ nthS (List.replicate m 0, []) hlt
      rw [← hs] at hfs
      obtain ⟨q1, q2⟩ := ht l[j] (List.getElem_mem _)
      have hg := hgt (List.getElem_mem hlt)
      have hx : l[j]? = some l[j] := List.getElem?_eq_getElem hlt
      generalize l[j] = e at hfs q1 q2 hx hg
      obtain ⟨tn, htn⟩ : ∃ tn : Nat, e.t = tn := ⟨e.t.toNat, by omega⟩
      rw [htn] at hg
      simp -implicitDefEqProofs at hg
      have hq : tn < many.length := by omega
      have hv : many[tn] ≤ l.length := by have := hmb _ (List.getElem_mem hq); omega
      have hcs : (many.map encI).set tn (.int .i64 ((many[tn] : Int) + 1)) = (bump many tn).map encI := by
        unfold bump; rw [map_modify encI _ hq]; rfl
      have hb2 : tn < (bump many tn).length := by rw [bump_length]; exact hq
      have hbv : (bump many tn)[tn] = many[tn] + 1 := by
        have : (bump many tn)[tn] = if tn = tn then many[tn] + 1 else many[tn] := List.getElem_modify (· + 1) tn many tn hb2
        simpa using this
      have hfs2 : nthS (many, nth) e = (bump many tn, nth ++ [many[tn] + 1]) := by
        unfold nthS; simp only [htn, Int.toNat_natCast]
        rw [List.getD_eq_getElem?_getD, List.getElem?_eq_getElem hb2, hbv]; rfl
      have d1 : j ≤ 9223372036854775806 := by omega
      have d2 : (j + 1) * 8 ≤ 140737488355328 := by omega
      simp -implicitDefEqProofs [hx, n2, n2.symm, htn, wr1 j (by omega), wr1 many[tn] (by omega), hq, hnl, d1, d2]
      exact hnext2 _ (j + 1, bump many tn, nth ++ [many[tn] + 1]) ⟨by simp -implicitDefEqProofs; omega, by rw [hfs, hfs2]⟩ (by simp -implicitDefEqProofs; omega) (turn_weak (by simp -implicitDefEqProofs) (by simp -implicitDefEqProofs [← hcs]) (by simp -implicitDefEqProofs))
    · refine hex2 _ _ ?_
      have hjn : ¬ j < l.length := by simpa using hb
      have hjl : j = l.length := by omega
      subst hjl
      have hfin : nth = nthP l := by unfold nthP; rw [← hm]; rw [List.take_length] at hs; rw [← hs]
      simp -implicitDefEqProofs
      refine hR _ (.pure (v := .agg [.slice (l.map encE), .slice ((clocksP l m).map encR), .vec (L, 3) l.length]) (by simp -implicitDefEqProofs [resAll, resOne]) ?_)
      unfold encO; rw [← hm, ← hfin]
      exact .agg (.cons (.refl _) (.cons (.refl _) (.cons (.vec (t := 3) (s := 1) (es := nth.map encI) (wr := true) (by simp -implicitDefEqProofs) (frzL_refl _)) .nil)))

theorem Before_ok (l : List Ev) (i j : Nat) (hl : Few l) (ht : Thr l) (hi : i ≤ 1000) (hj : j ≤ 1000) : APure TC 55 [encO l, .int .i64 i, .int .i64 j] (.bool (beforeP l i j)) := by
  have hl0 := hl.len
  refine afn_enter Try.func55 rfl rfl rfl (by decide) (Nat.le_of_ble_eq_true rfl) (by kernel_rfl) fun L K hL hR hN hP => ?_
  have i0 : ¬ (i : Int) < 0 := by omega
  have hnl := nthP_length l
  have hcl := clocksN_length l (threadsP l) l.length
  have hrows := clocksN_rows l (threadsP l) l.length
  by_cases h1 : j < l.length
  · by_cases h2 : i < j
    · have hil : i < l.length := by omega
      obtain ⟨q1, q2⟩ := ht _ (at_mem hil)
      have hgt := threads_gt (at_mem hil)
      obtain ⟨tn, htn⟩ : ∃ tn : Nat, (at' l i).t = tn := ⟨(at' l i).t.toNat, by omega⟩
      have e1 : ¬ l.length ≤ j := by omega
      have e2 : ¬ j ≤ i := by omega
      have e3 : ¬ (tn : Int) < 0 := by omega
      have hrow : (clocksP l (threadsP l))[j]? = some ((clocksP l (threadsP l)).getD j []) := by
        rw [List.getD_eq_getElem?_getD, List.getElem?_eq_getElem (by show j < (clocksN l (threadsP l) l.length).length; omega)]; rfl
      have hrl : ((clocksP l (threadsP l)).getD j []).length = threadsP l := hrows _ (List.mem_of_getElem? hrow)
      have hc : ((clocksP l (threadsP l)).getD j [])[tn]? = some (((clocksP l (threadsP l)).getD j []).getD tn 0) := by
        rw [List.getD_eq_getElem?_getD (l := (clocksP l (threadsP l)).getD j []), List.getElem?_eq_getElem (by rw [htn] at hgt; simp -implicitDefEqProofs at hgt; omega)]; rfl
      have hw : (nthP l)[i]? = some ((nthP l).getD i 0) := by rw [List.getD_eq_getElem?_getD, List.getElem?_eq_getElem (by omega)]; rfl
      have hspec : beforeP l i j = decide ((nthP l).getD i 0 ≤ ((clocksP l (threadsP l)).getD j []).getD tn 0) := by
        unfold beforeP; rw [htn]; simp only [h1, h2, decide_true, Bool.true_and, Int.toNat_natCast]
      rw [hspec] at hR
      generalize ((clocksP l (threadsP l)).getD j []).getD tn 0 = x at *
      generalize (clocksP l (threadsP l)).getD j [] = row at *
      generalize (nthP l).getD i 0 = y at *
      simp -implicitDefEqProofs [encO, i0, e1, e2, e3, at_get hil, htn, hrow, hc, hw]
      refine hR _ (.pure rfl ?_)
      simp -implicitDefEqProofs
    · have e1 : ¬ l.length ≤ j := by omega
      have e2 : j ≤ i := by omega
      have hspec : beforeP l i j = false := by unfold beforeP; simp -implicitDefEqProofs [h2]
      simp -implicitDefEqProofs [encO, i0, e1, e2]
      refine hR _ (.pure rfl ?_)
      rw [hspec]; simp -implicitDefEqProofs
  · have e1 : l.length ≤ j := by omega
    have hspec : beforeP l i j = false := by unfold beforeP; simp -implicitDefEqProofs [h1]
    simp -implicitDefEqProofs [encO, i0, e1]
    refine hR _ (.pure rfl ?_)
    rw [hspec]; simp -implicitDefEqProofs
end Go.Awp.R1

/- Initials, in plain words. -/
namespace Go.Awp.B

def orB (b : BitVec 64) (t : Int) : BitVec 64 := b ||| BitVec.ofNat 64 (2 ^ t.toNat)
def initS (l : List Ev) (b : BitVec 64) (i : Nat) : BitVec 64 :=
  if (decide (0 ≤ (at' l i).t) && decide ((at' l i).t < 64) && firstP l i (List.range l.length)) = true then orB b (at' l i).t else b
def initP (l : List Ev) : BitVec 64 := (List.range l.length).foldl (initS l) 0
end Go.Awp.B

/- Initials; the fixed facts. -/
namespace Go.Awp.R1
open Go Go.Awp Go.Proofs Go.Awp.B

def encU (b : BitVec 64) : V := .int .u64 (b.toNat : Int)

theorem or_step (b : BitVec 64) (t : Nat) (h : t < 64) : bitI .or .u64 (b.toNat : Int) (IntKind.u64.wrap (2 ^ t)) = ((orB b t).toNat : Int) := by
  have h1 : (2 : Nat) ^ t < 2 ^ 64 := Nat.pow_lt_pow_right (by omega) h
  have h2 : IntKind.u64.wrap (2 ^ t) = ((2 ^ t : Nat) : Int) := by
    have : ((2 : Int) ^ t) = ((2 ^ t : Nat) : Int) := by simp -implicitDefEqProofs
    have hm : (2 : Nat) ^ 64 = 18446744073709551616 := rfl
    rw [this]
    generalize 2 ^ t = m at *
    rw [wrap_u64 (by omega) (by omega)]
  have h3 : BitVec.ofInt IntKind.u64.bits (b.toNat : Int) = b := by
    show BitVec.ofInt 64 _ = b
    rw [BitVec.ofInt_natCast]; simp -implicitDefEqProofs
  have h4 : BitVec.ofInt IntKind.u64.bits ((2 ^ t : Nat) : Int) = BitVec.ofNat 64 (2 ^ t) := by
    show BitVec.ofInt 64 _ = _
    rw [BitVec.ofInt_natCast]
  unfold bitI
  rw [h2]
  simp only [h3, h4]
  unfold orB
  have h5 : (b ||| BitVec.ofNat 64 (2 ^ t)).toNat < 18446744073709551616 := (b ||| BitVec.ofNat 64 (2 ^ t)).isLt
  exact wrap_u64 (n := ((b ||| BitVec.ofNat 64 (2 ^ t)).toNat : Int)) (by omega) (by omega)

theorem Initials_ok (l : List Ev) (hl : Few l) : APure TC 23 [.slice (l.map encE)] (encU (initP l)) := by
  have hl0 := hl.len
  refine afn_enter Try.func23 rfl rfl rfl (by decide) (Nat.le_of_ble_eq_true rfl) (by kernel_rfl) fun L K hL hR hN hP => ?_
  simp -implicitDefEqProofs
  refine wait_turn (turn_thaw (t := 3) (el := 3) (sz := 1) (by simp -implicitDefEqProofs) (by decide)) ?_
  refine loopJ (α := Nat) (fun k => k ≤ l.length)
    (fun k => [(0, .slice (l.map encE)), (3, .vec (L, 0) k), (9, .int .i64 l.length), (10, .int .i64 k)])
    (fun k => [((L, 0), .vec 3 1 ((List.range k).map encI) k true)]) (fun k => l.length - k) 0 (by simp -implicitDefEqProofs) (turn_weak (by simp -implicitDefEqProofs) (by simp -implicitDefEqProofs) (by simp -implicitDefEqProofs)) ?_
  rintro k L1 K1 hk hL1 hk1 hnext hex hrt - -
  simp -implicitDefEqProofs
  refine CondC.mk (fun hb => ?_) (fun hb => ?_)
  · have hlt : k < l.length := by simpa using hb
    have c1 : k ≤ 9223372036854775806 := by omega
    have c2 : (k + 1) * 8 ≤ 140737488355328 := by omega
    simp -implicitDefEqProofs [c1, c2, wr1 k (by omega)]
    exact hnext _ (k + 1) (by omega) (by omega) (turn_weak (by simp -implicitDefEqProofs) (by simp -implicitDefEqProofs [List.range_succ]) (by simp -implicitDefEqProofs))
  · refine hex _ _ ?_
    have hkn : ¬ k < l.length := by simpa using hb
    have hkl : k = l.length := by omega
    subst hkl
    simp -implicitDefEqProofs
    refine loopJ (α := Nat × BitVec 64) (fun x => x.1 ≤ l.length ∧ x.2 = (List.range x.1).foldl (initS l) 0)
      (fun x => [(0, .slice (l.map encE)), (3, .vec (L, 0) l.length), (5, encU x.2), (18, .slice (l.map encE)), (19, .int .i64 l.length), (20, .int .i64 x.1)])
      (fun x => [((L, 0), .vec 3 1 ((List.range l.length).map encI) l.length true)]) (fun x => l.length - x.1) (0, 0) (by simp -implicitDefEqProofs) (turn_weak (by simp -implicitDefEqProofs [encU]) (by simp -implicitDefEqProofs) (by simp -implicitDefEqProofs)) ?_
    rintro ⟨i, b⟩ L2 K2 ⟨hi, hs⟩ hL2 - hnext2 hex2 hrt2 - -
    simp -implicitDefEqProofs at hi hs hL2
    have n2 : L ≠ L2 := by omega
    simp -implicitDefEqProofs
    refine CondC.mk (fun hb => ?_) (fun hb => ?_)
    · have hlt : i < l.length := by simpa using hb
      have hfs : (List.range (i + 1)).foldl (initS l) 0 = initS l b i := by rw [List.range_succ, List.foldl_append, hs]; rfl
      have hf := first_ok l (List.range l.length) i hl (by simp -implicitDefEqProofs; omega) (by simp -implicitDefEqProofs) hlt
      have off : initS l b i = b → K2 = K2 → True := fun _ _ => trivial
      rcases h0 : decide (0 ≤ (at' l i).t) <;> simp -implicitDefEqProofs [at_get hlt, n2, n2.symm, h0, wr1 i (by omega)]
      · exact hnext2 _ (i + 1, b) ⟨by simp -implicitDefEqProofs; omega, by rw [hfs]; simp -implicitDefEqProofs [initS, h0]⟩ (by simp -implicitDefEqProofs; omega) (turn_weak (by simp -implicitDefEqProofs) (by simp -implicitDefEqProofs) (by simp -implicitDefEqProofs))
      · rcases h64 : decide ((at' l i).t < 64) <;> simp -implicitDefEqProofs [n2, n2.symm, h64, wr1 i (by omega)]
        · exact hnext2 _ (i + 1, b) ⟨by simp -implicitDefEqProofs; omega, by rw [hfs]; simp -implicitDefEqProofs [initS, h64]⟩ (by simp -implicitDefEqProofs; omega) (turn_weak (by simp -implicitDefEqProofs) (by simp -implicitDefEqProofs) (by simp -implicitDefEqProofs))
        · obtain ⟨tn, htn⟩ : ∃ tn : Nat, (at' l i).t = tn := ⟨(at' l i).t.toNat, by simp -implicitDefEqProofs at h0; omega⟩
          refine CallF.borrow hf (.cons (.refl _) (.cons (.vec (t := 3) (s := 1) (es := (List.range l.length).map encI) (wr := true) (by simp -implicitDefEqProofs [n2, n2.symm]) (frzL_refl _)) (.cons (.refl _) .nil))) rfl (by decide) ?_
          rcases hff : firstP l i (List.range l.length) <;> simp -implicitDefEqProofs [n2, n2.symm, htn, wr1 i (by omega)]
          · exact hnext2 _ (i + 1, b) ⟨by simp -implicitDefEqProofs; omega, by rw [hfs]; simp -implicitDefEqProofs [initS, hff]⟩ (by simp -implicitDefEqProofs; omega) (turn_weak (by simp -implicitDefEqProofs) (by simp -implicitDefEqProofs) (by simp -implicitDefEqProofs))
          · have ht64 : tn < 64 := by rw [htn] at h64; simp -implicitDefEqProofs at h64; omega
            have hmin : min tn IntKind.u64.bits = tn := by show min tn 64 = tn; omega
            simp -implicitDefEqProofs [encU, n2, n2.symm, htn, wr1 i (by omega), hmin, or_step b tn ht64]
            exact hnext2 _ (i + 1, orB b tn) ⟨by simp -implicitDefEqProofs; omega, by rw [hfs]; unfold initS; rw [h0, h64, hff, htn]; rfl⟩ (by simp -implicitDefEqProofs; omega) (turn_weak (by simp -implicitDefEqProofs [encU]) (by simp -implicitDefEqProofs) (by simp -implicitDefEqProofs))
    · refine hex2 _ _ ?_
      have hin : ¬ i < l.length := by simpa using hb
      have hil : i = l.length := by omega
      subst hil
      simp -implicitDefEqProofs
      refine hR _ (.pure rfl ?_)
      rw [hs]
      exact .refl _
end Go.Awp.R1

/- The fixed facts. -/
namespace Go.Awp.R1
open Go Go.Awp Go.Proofs Go.Awp.B

theorem Awake08_ok : APure TC 64 [] (.bool true) := by
  have e1 : newE 0 [⟨1, false⟩] = ⟨0, [⟨1, false⟩]⟩ := rfl
  have e2 : newE 1 [⟨1, false⟩] = ⟨1, [⟨1, false⟩]⟩ := rfl
  have h1 := New_ok 0 [⟨1, false⟩] (by decide)
  have h2 := New_ok 1 [⟨1, false⟩] (by decide)
  rw [e1] at h1; rw [e2] at h2
  have h3 := Clash_ok [⟨1, false⟩] [⟨1, false⟩] (by decide) (by decide)
  have h4 := Clash_ok [⟨1, false⟩] [⟨1, true⟩] (by decide) (by decide)
  rw [show clash [⟨1, false⟩] [⟨1, false⟩] = false from rfl] at h3
  rw [show clash [⟨1, false⟩] [⟨1, true⟩] = true from rfl] at h4
  refine afn_enter Try.func64 rfl rfl rfl (by decide) (Nat.le_of_ble_eq_true rfl) (by kernel_rfl) fun L K hL hR hN hP => ?_
  simp -implicitDefEqProofs
  refine CallF.pure h1 (by decide) ?_
  simp -implicitDefEqProofs
  refine CallF.pure h2 (by decide) ?_
  simp -implicitDefEqProofs
  refine CallF.pure h3 (by decide) ?_
  simp -implicitDefEqProofs
  refine CallF.pure h4 (by decide) ?_
  simp -implicitDefEqProofs
  exact hR _ (.pure rfl (.refl _))

theorem Awake11_ok : APure TC 45 [] (.bool true) := by
  have h1 := New_ok 0 [] (by decide)
  have h2 := New_ok 1 [] (by decide)
  rw [show newE 0 [] = ⟨0, []⟩ from rfl] at h1
  rw [show newE 1 [] = ⟨1, []⟩ from rfl] at h2
  have hf : Few [⟨0, []⟩, ⟨0, []⟩, ⟨1, []⟩] := ⟨by decide, by decide⟩
  have ht : Thr [⟨0, []⟩, ⟨0, []⟩, ⟨1, []⟩] := by unfold Thr; decide
  have h3 := NewO_ok _ hf ht
  have b1 := Before_ok _ 0 1 hf ht (by decide) (by decide)
  have b2 := Before_ok _ 0 2 hf ht (by decide) (by decide)
  have b3 := Before_ok _ 1 0 hf ht (by decide) (by decide)
  rw [show beforeP [⟨0, []⟩, ⟨0, []⟩, ⟨1, []⟩] 0 1 = true from rfl] at b1
  rw [show beforeP [⟨0, []⟩, ⟨0, []⟩, ⟨1, []⟩] 0 2 = false from rfl] at b2
  rw [show beforeP [⟨0, []⟩, ⟨0, []⟩, ⟨1, []⟩] 1 0 = false from rfl] at b3
  refine afn_enter Try.func45 rfl rfl rfl (by decide) (Nat.le_of_ble_eq_true rfl) (by kernel_rfl) fun L K hL hR hN hP => ?_
  simp -implicitDefEqProofs
  refine CallF.frzP [] h1 (.cons (.refl _) (.cons .snil .nil)) (by simp -implicitDefEqProofs) (by decide) rfl ?_
  simp -implicitDefEqProofs [Store.less_nil]
  refine CallF.frzP [] h1 (.cons (.refl _) (.cons .snil .nil)) (by simp -implicitDefEqProofs) (by decide) rfl ?_
  simp -implicitDefEqProofs [Store.less_nil]
  refine CallF.frzP [] h2 (.cons (.refl _) (.cons .snil .nil)) (by simp -implicitDefEqProofs) (by decide) rfl ?_
  simp -implicitDefEqProofs [Store.less_nil]
  refine CallF.pure h3 (by decide) ?_
  simp -implicitDefEqProofs [encO]
  refine CallF.pure b1 (by decide) ?_
  simp -implicitDefEqProofs
  refine CallF.pure b2 (by decide) ?_
  simp -implicitDefEqProofs
  refine CallF.pure b3 (by decide) ?_
  simp -implicitDefEqProofs
  refine CallF.pure Awake08_ok (by decide) ?_
  simp -implicitDefEqProofs
  exact hR _ (.pure rfl (.refl _))

theorem Awake12_ok : APure TC 13 [] (.bool true) := by
  have h1 := New_ok 2 [] (by decide)
  have h2 := New_ok 1 [] (by decide)
  rw [show newE 2 [] = ⟨2, []⟩ from rfl] at h1
  rw [show newE 1 [] = ⟨1, []⟩ from rfl] at h2
  have hf : Few [⟨2, []⟩] := ⟨by decide, by decide⟩
  have hg : Few [⟨2, []⟩, ⟨1, []⟩] := ⟨by decide, by decide⟩
  have h3 := Initials_ok _ hf
  have h4 := NormalP_ok _ hg
  rw [show initP [⟨2, []⟩] = 4 from rfl] at h3
  rw [show normalP [⟨2, []⟩, ⟨1, []⟩] = [1, 0] from rfl] at h4
  have h5 := EqInts_ok [1, 0] [1, 0] (by decide) (by decide)
  refine afn_enter Try.func13 rfl rfl rfl (by decide) (Nat.le_of_ble_eq_true rfl) (by kernel_rfl) fun L K hL hR hN hP => ?_
  simp -implicitDefEqProofs
  refine CallF.frzP [] h1 (.cons (.refl _) (.cons .snil .nil)) (by simp -implicitDefEqProofs) (by decide) rfl ?_
  simp -implicitDefEqProofs [Store.less_nil]
  refine CallF.frzP [] h2 (.cons (.refl _) (.cons .snil .nil)) (by simp -implicitDefEqProofs) (by decide) rfl ?_
  simp -implicitDefEqProofs [Store.less_nil]
  refine CallF.pure h3 (by decide) ?_
  simp -implicitDefEqProofs [encU]
  refine CallF.pure h4 (by decide) ?_
  simp -implicitDefEqProofs
  refine CallF.pure h5 (by decide) ?_
  simp -implicitDefEqProofs
  refine CallF.pure Awake11_ok (by decide) ?_
  simp -implicitDefEqProofs
  exact hR _ (.pure rfl (.refl _))
end Go.Awp.R1

/- Orders of events that are the same but for swaps. -/
namespace Go.Awp.B

/-- e can be the first of w; what is left. -/
def Ext (e : Ev) (w r : List Ev) : Prop := ∃ u v, w = u ++ e :: v ∧ r = u ++ v ∧ ∀ c ∈ u, depend c e = false

/-- The same but for one swap. -/
inductive Sw : List Ev → List Ev → Prop
  | mk (u : List Ev) (a b : Ev) (v : List Ev) (h : depend a b = false) : Sw (u ++ a :: b :: v) (u ++ b :: a :: v)

/-- The same but for swaps. -/
inductive Eqv : List Ev → List Ev → Prop
  | refl (w : List Ev) : Eqv w w
  | step {w x y : List Ev} (h : Sw w x) (k : Eqv x y) : Eqv w y

theorem Sw.symm {w x : List Ev} (h : Sw w x) : Sw x w := by
  cases h with | mk u a b v h => exact .mk u b a v (by rw [depend_comm]; exact h)
theorem Eqv.trans {w x y : List Ev} (h : Eqv w x) (k : Eqv x y) : Eqv w y := by
  induction h with
  | refl => exact k
  | step h _ ih => exact .step h (ih k)
theorem Eqv.one {w x : List Ev} (h : Sw w x) : Eqv w x := .step h (.refl _)
theorem Eqv.symm {w x : List Ev} (h : Eqv w x) : Eqv x w := by
  induction h with
  | refl => exact .refl _
  | step h _ ih => exact ih.trans (.one h.symm)
theorem Sw.cons {w x : List Ev} (c : Ev) (h : Sw w x) : Sw (c :: w) (c :: x) := by
  cases h with | mk u a b v h => exact .mk (c :: u) a b v h
theorem Eqv.cons {w x : List Ev} (c : Ev) (h : Eqv w x) : Eqv (c :: w) (c :: x) := by
  induction h with
  | refl => exact .refl _
  | step h _ ih => exact .step (h.cons c) ih
theorem Sw.length {w x : List Ev} (h : Sw w x) : x.length = w.length := by cases h; simp
theorem Eqv.length {w x : List Ev} (h : Eqv w x) : x.length = w.length := by
  induction h with
  | refl => rfl
  | step h _ ih => rw [ih, h.length]
theorem Sw.perm {w x : List Ev} (h : Sw w x) : w.Perm x := by
  cases h with | mk u a b v h => exact List.Perm.append_left u (.swap b a v)
theorem Eqv.perm {w x : List Ev} (h : Eqv w x) : w.Perm x := by
  induction h with
  | refl => exact .refl _
  | step h _ ih => exact h.perm.trans ih

/-- What can come first is brought to the front. -/
theorem front (e : Ev) (u v : List Ev) (h : ∀ c ∈ u, depend c e = false) : Eqv (u ++ e :: v) (e :: (u ++ v)) := by
  induction u with
  | nil => exact .refl _
  | cons c u ih =>
    have h1 := (ih fun x hx => h x (List.mem_cons_of_mem _ hx)).cons c
    exact h1.trans (.one (.mk [] c e (u ++ v) (h c List.mem_cons_self)))
theorem Ext.eqv {e : Ev} {w r : List Ev} (h : Ext e w r) : Eqv w (e :: r) := by
  obtain ⟨u, v, rfl, rfl, hu⟩ := h
  exact front e u v hu
theorem Ext.length {e : Ev} {w r : List Ev} (h : Ext e w r) : w.length = r.length + 1 := by
  obtain ⟨u, v, rfl, rfl, hu⟩ := h; simp; omega

/-- One swap leaves what can come first, and what is left the same but for a swap. -/
theorem Ext.sw {e : Ev} {w w' r : List Ev} (h : Ext e w r) (k : Sw w w') : ∃ r', Ext e w' r' ∧ Eqv r r' := by
  obtain ⟨u, v, rfl, rfl, hu⟩ := h
  generalize hw : u ++ e :: v = w at k
  cases k with | mk p a b q hab =>
  rcases List.append_eq_append_iff.1 hw with ⟨s, h1, h2⟩ | ⟨s, h1, h2⟩
  · -- p = u ++ s, e :: v = s ++ a :: b :: q
    cases s with
    | nil =>
      simp at h1 h2
      obtain ⟨rfl, rfl⟩ := h2
      subst h1
      -- e = a at the place of the swap
      exact ⟨p ++ b :: q, ⟨p ++ [b], q, by simp, by simp, fun c hc => by
        rcases List.mem_append.1 hc with hc | hc
        · exact hu c hc
        · rw [List.mem_singleton.1 hc, depend_comm]; exact hab⟩, .refl _⟩
    | cons x s =>
      simp at h2
      obtain ⟨rfl, rfl⟩ := h2
      subst h1
      exact ⟨u ++ (s ++ b :: a :: q), ⟨u, s ++ b :: a :: q, by simp, rfl, hu⟩, by
        have := Eqv.one (Sw.mk (u ++ s) a b q hab)
        simpa using this⟩
  · -- u = p ++ s, a :: b :: q = s ++ e :: v
    cases s with
    | nil =>
      simp at h1 h2
      obtain ⟨rfl, rfl⟩ := h2
      subst h1
      exact ⟨u ++ b :: q, ⟨u ++ [b], q, by simp, by simp, fun c hc => by
        rcases List.mem_append.1 hc with hc | hc
        · exact hu c hc
        · rw [List.mem_singleton.1 hc, depend_comm]; exact hab⟩, .refl _⟩
    | cons x s =>
      simp at h2
      obtain ⟨rfl, h2⟩ := h2
      cases s with
      | nil =>
        simp at h2
        obtain ⟨rfl, rfl⟩ := h2
        subst h1
        exact ⟨p ++ a :: q, ⟨p, a :: q, rfl, rfl, fun c hc => hu c (by simp [hc])⟩, by simpa using Eqv.refl _⟩
      | cons y s =>
        simp at h2
        obtain ⟨rfl, rfl⟩ := h2
        subst h1
        refine ⟨p ++ b :: a :: s ++ v, ⟨p ++ b :: a :: s, v, by simp, by simp, fun c hc => hu c ?_⟩, ?_⟩
        · simp at hc ⊢
          rcases hc with hc | hc | hc | hc <;> simp [hc]
        · have := Eqv.one (Sw.mk p a b (s ++ v) hab)
          simpa using this
theorem Ext.of_eqv {e : Ev} {w w' r : List Ev} (h : Ext e w r) (k : Eqv w w') : ∃ r', Ext e w' r' ∧ Eqv r r' := by
  induction k generalizing r with
  | refl => exact ⟨r, h, .refl _⟩
  | step hs _ ih =>
    obtain ⟨r1, h1, k1⟩ := h.sw hs
    obtain ⟨r2, h2, k2⟩ := ih h1
    exact ⟨r2, h2, k1.trans k2⟩

/-- Of one thread at most one can come first. -/
theorem Ext.uniq {e f : Ev} {w r s : List Ev} (h : Ext e w r) (k : Ext f w s) (ht : e.t = f.t) : e = f ∧ r = s := by
  obtain ⟨u, v, rfl, rfl, hu⟩ := h
  obtain ⟨p, q, h1, rfl, hp⟩ := k
  rcases List.append_eq_append_iff.1 h1 with ⟨x, h2, h3⟩ | ⟨x, h2, h3⟩
  · cases x with
    | nil => simp at h2 h3; obtain ⟨rfl, rfl⟩ := h3; subst h2; exact ⟨rfl, rfl⟩
    | cons y x =>
      simp at h3
      obtain ⟨rfl, rfl⟩ := h3
      have := hp e (by rw [h2]; simp)
      rw [depend_thread ht] at this; cases this
  · cases x with
    | nil => simp at h2 h3; obtain ⟨rfl, rfl⟩ := h3; subst h2; exact ⟨rfl, rfl⟩
    | cons y x =>
      simp at h3
      obtain ⟨rfl, rfl⟩ := h3
      have := hu f (by rw [h2]; simp)
      rw [depend_thread ht.symm] at this; cases this

/-! ### The form of a row of events -/
/-- Greedy: the lowest thread's of what can come first, again and again. -/
inductive Greedy : List Ev → List Ev → Prop
  | nil : Greedy [] []
  | cons {e : Ev} {w r f : List Ev} (h : Ext e w r) (hm : ∀ c s, Ext c w s → e.t ≤ c.t) (k : Greedy r f) : Greedy w (e :: f)

theorem Greedy.eqv {w f : List Ev} (h : Greedy w f) : Eqv w f := by
  induction h with
  | nil => exact .refl _
  | cons h _ _ ih => exact h.eqv.trans (ih.cons _)
theorem Greedy.same {w w' f f' : List Ev} (h : Greedy w f) (k : Greedy w' f') (hw : Eqv w w') : f = f' := by
  induction h generalizing w' f' with
  | nil =>
    have := hw.length
    cases k with
    | nil => rfl
    | cons h _ _ => have h2 := h.length; rw [this] at h2; simp at h2
  | cons h hm _ ih =>
    cases k with
    | nil => have h1 := hw.length; have h2 := h.length; rw [← h1] at h2; simp at h2
    | @cons e' _ r' f' h' hm' k' =>
      rename_i e w r f k
      obtain ⟨r1, h1, q1⟩ := h.of_eqv hw
      obtain ⟨r2, h2, q2⟩ := h'.of_eqv hw.symm
      have ht : e.t = e'.t := by have := hm' _ _ h1; have := hm _ _ h2; omega
      obtain ⟨rfl, rfl⟩ := h1.uniq h' ht
      rw [ih k' q1]

/-- The program's order is greedy. -/
theorem firstP_ext (l : List Ev) (left : List Nat) (hn : left.Nodup) (i : Nat) (hi : i ∈ left) (hf : firstP l i left = true) : Ext (at' l i) (left.map (at' l)) ((left.filter (· != i)).map (at' l)) := by
  obtain ⟨p, q, rfl⟩ := List.append_of_mem hi
  have hnd := List.nodup_append.1 hn
  have hp : i ∉ p := fun h => hnd.2.2 i h i List.mem_cons_self rfl
  have hq : i ∉ q := (List.nodup_cons.1 hnd.2.1).1
  rw [firstP_append l i p q hp] at hf
  refine ⟨p.map (at' l), q.map (at' l), by simp, ?_, fun c hc => ?_⟩
  · rw [List.filter_append, List.filter_cons]
    have e1 : p.filter (· != i) = p := List.filter_eq_self.2 fun x hx => by
      have : x ≠ i := fun e => hp (e ▸ hx)
      simp [this]
    have e2 : q.filter (· != i) = q := List.filter_eq_self.2 fun x hx => by
      have : x ≠ i := fun e => hq (e ▸ hx)
      simp [this]
    simp [e1, e2]
  · obtain ⟨k, hk, rfl⟩ := List.mem_map.1 hc
    have := (List.all_eq_true.1 hf) k hk
    simpa using this
theorem ext_firstP (l : List Ev) (left : List Nat) (hn : left.Nodup) {e : Ev} {r : List Ev} (h : Ext e (left.map (at' l)) r) : ∃ i ∈ left, firstP l i left = true ∧ at' l i = e := by
  obtain ⟨u, v, h1, -, hu⟩ := h
  obtain ⟨p, q, rfl, hp, hq⟩ := List.map_eq_append_iff.1 h1
  cases q with
  | nil => simp at hq
  | cons i q =>
    simp at hq
    have hnd := List.nodup_append.1 hn
    have hpi : i ∉ p := fun h => hnd.2.2 i h i List.mem_cons_self rfl
    refine ⟨i, by simp, ?_, hq.1⟩
    rw [firstP_append l i p q hpi, List.all_eq_true]
    intro k hk
    have := hu (at' l k) (by rw [← hp]; exact List.mem_map.2 ⟨k, hk, rfl⟩)
    rw [hq.1]; simp [this]
theorem normalF_greedy (l : List Ev) : ∀ (n : Nat) (left : List Nat), left.Nodup → left.length ≤ n → Greedy (left.map (at' l)) ((normalF (pickP l) n left).map (at' l)) := by
  intro n
  induction n with
  | zero => intro left _ h; have : left = [] := List.eq_nil_of_length_eq_zero (by omega); subst this; exact .nil
  | succ n ih =>
    intro left hn hl
    unfold normalF
    cases hp : pickP l left with
    | none => rw [pick_none l hp]; exact .nil
    | some b =>
      obtain ⟨hb, hf, hmin⟩ := pick_some l hp
      simp only [List.map_cons]
      refine .cons (firstP_ext l left hn b hb hf) (fun c s hc => ?_) (ih _ (filter_nodup hn _) ?_)
      · obtain ⟨i, hi, hfi, rfl⟩ := ext_firstP l left hn hc
        exact hmin i hi hfi
      · have : (left.filter (· != b)).length < left.length := by
          rcases Nat.lt_or_ge (left.filter (· != b)).length left.length with h | h
          · exact h
          · have e := List.filter_eq_self.1 (List.Sublist.eq_of_length_le List.filter_sublist h) b hb
            simp at e
        omega
theorem map_range (l : List Ev) : (List.range l.length).map (at' l) = l := by
  apply List.ext_getElem
  · simp
  · intro i h1 h2; simp [at', h2]
theorem form_greedy (l : List Ev) : Greedy l (formP l) := by
  have := normalF_greedy l l.length (List.range l.length) List.nodup_range (by simp)
  rw [map_range] at this
  exact this
theorem form_eqv (l : List Ev) : Eqv l (formP l) := (form_greedy l).eqv
/-- **The form decides.** -/
theorem form_iff {a b : List Ev} : formP a = formP b ↔ Eqv a b :=
  ⟨fun h => (form_eqv a).trans (h ▸ (form_eqv b).symm), fun h => (form_greedy a).same (form_greedy b) h⟩
theorem form_form (l : List Ev) : formP (formP l) = formP l := form_iff.2 (form_eqv l).symm

/-! ### Initials -/
theorem orB_get (b : BitVec 64) (t : Int) (i : Nat) : (orB b t).getLsbD i = (b.getLsbD i || (decide (i < 64) && decide (i = t.toNat))) := by
  unfold orB
  rw [BitVec.getLsbD_or]
  congr 1
  rw [BitVec.getLsbD_ofNat]
  congr 1
  rw [Nat.testBit_two_pow]
  simp [eq_comm]
theorem orB_fold {α : Type} (f : α → Int) (l : List α) (b : BitVec 64) (i : Nat) : (l.foldl (fun b x => orB b (f x)) b).getLsbD i = (b.getLsbD i || (decide (i < 64) && l.any fun x => decide (i = (f x).toNat))) := by
  induction l generalizing b with
  | nil => simp
  | cons x l ih =>
    rw [List.foldl_cons, ih, orB_get, List.any_cons]
    cases b.getLsbD i <;> cases decide (i < 64) <;> simp
theorem init_fold (l : List Ev) : initP l = (((List.range l.length).filter fun i => decide (0 ≤ (at' l i).t) && decide ((at' l i).t < 64) && firstP l i (List.range l.length)).map fun i => (at' l i).t).foldl (fun b t => orB b t) 0 := by
  rw [List.foldl_map, List.foldl_filter]
  rfl
/-- Its bits: the threads that can come first. -/
theorem init_get (l : List Ev) (i : Nat) : (initP l).getLsbD i = true ↔ i < 64 ∧ ∃ e r, Ext e l r ∧ e.t = i := by
  have key : ∀ t : Int, t ∈ (((List.range l.length).filter fun i => decide (0 ≤ (at' l i).t) && decide ((at' l i).t < 64) && firstP l i (List.range l.length)).map fun i => (at' l i).t) ↔ 0 ≤ t ∧ t < 64 ∧ ∃ e r, Ext e l r ∧ e.t = t := by
    intro t
    rw [List.mem_map]
    constructor
    · rintro ⟨k, hk, rfl⟩
      rw [List.mem_filter] at hk
      obtain ⟨h1, h2⟩ := hk
      simp at h2
      have := firstP_ext l (List.range l.length) List.nodup_range k h1 h2.2
      rw [map_range] at this
      exact ⟨h2.1.1, h2.1.2, _, _, this, rfl⟩
    · rintro ⟨h1, h2, e, r, he, rfl⟩
      have he' : Ext e ((List.range l.length).map (at' l)) r := by rw [map_range]; exact he
      obtain ⟨k, hk, hf, rfl⟩ := ext_firstP l (List.range l.length) List.nodup_range he'
      exact ⟨k, List.mem_filter.2 ⟨hk, by simp [h1, h2, hf]⟩, rfl⟩
  rw [init_fold, orB_fold (fun t => t)]
  simp only [BitVec.ofNat_eq_ofNat, BitVec.getLsbD_zero, Bool.false_or, Bool.and_eq_true, decide_eq_true_eq, List.any_eq_true]
  constructor
  · rintro ⟨h1, t, ht, h2⟩
    obtain ⟨q1, q2, e, r, he, rfl⟩ := (key t).1 ht
    exact ⟨h1, e, r, he, by omega⟩
  · rintro ⟨h1, e, r, he, h2⟩
    exact ⟨h1, (i : Int), (key _).2 ⟨by omega, by omega, e, r, he, h2⟩, by simp⟩
theorem init_eqv {a b : List Ev} (h : Eqv a b) : initP a = initP b := by
  apply BitVec.eq_of_getLsbD_eq
  intro i hi
  rw [Bool.eq_iff_iff, init_get, init_get]
  constructor
  · rintro ⟨h1, e, r, he, ht⟩
    obtain ⟨r', he', -⟩ := he.of_eqv h
    exact ⟨h1, e, r', he', ht⟩
  · rintro ⟨h1, e, r, he, ht⟩
    obtain ⟨r', he', -⟩ := he.of_eqv h.symm
    exact ⟨h1, e, r', he', ht⟩
end Go.Awp.B

/- BraidNormals, BraidTwice: walked. -/
namespace Go.Awp.R1
open Go Go.Awp Go.Proofs Go.Awp.B

/-- What is known of the events of a statement that is let in. -/
structure Lit (l : List EE) (n : Nat) : Prop where
  len : l.length ≤ n
  n : n ≤ 1000
  m : ∀ e ∈ l, e.m.length ≤ 8
  t : ∀ e ∈ l, e.t ≤ 255

theorem lit_of {l : List EE} {n : Nat} (h : lightP l n = true) (hn : n ≤ 1000) (ht : ∀ e ∈ l, e.t ≤ 255) : Lit l n := by
  unfold lightP at h
  simp only [Bool.and_eq_true, List.all_eq_true, decide_eq_true_eq] at h
  exact ⟨by omega, hn, fun e he => h.1 e he, ht⟩

section
variable {l : List EE} {n : Nat} (h : Lit l n)
include h
theorem Lit.evs : (eventsP l).length ≤ n := by unfold eventsP; rw [List.length_map]; exact h.len
theorem Lit.few : Few (eventsP l) := by
  refine ⟨Nat.le_trans h.evs h.n, fun e he => ?_⟩
  obtain ⟨x, hx, rfl⟩ := List.mem_map.1 he
  have := newE_length ((x.t % 5 : Nat) : Int) (marks x.m)
  have h8 := h.m x hx
  rw [marks_length] at this
  unfold eventOf; omega
theorem Lit.thr : Thr (eventsP l) := by
  intro e he
  obtain ⟨x, hx, rfl⟩ := List.mem_map.1 he
  have : (eventOf x).t = ((x.t % 5 : Nat) : Int) := rfl
  omega
theorem Lit.evs_ok : APure TC 15 [.slice (l.map encEE)] (.slice ((eventsP l).map encE)) :=
  Events_ok l (Nat.le_trans h.len h.n) fun e he => ⟨h.m e he, h.t e he⟩
end

theorem BraidNormals_ok (l : List EE) (hl : short l) (ht : ∀ e ∈ l, e.t ≤ 255) : APure TC 3 [.slice (l.map encEE)] (.bool true) := by
  refine afn_enter Try.func3 rfl rfl rfl (by decide) (Nat.le_of_ble_eq_true rfl) (by kernel_rfl) fun L K hL hR hN hP => ?_
  simp -implicitDefEqProofs
  refine CallF.pure Awake12_ok (by decide) ?_
  simp -implicitDefEqProofs
  refine CallF.pure (Light_ok l 24 hl) (by decide) ?_
  rcases hlt : lightP l 24 <;> simp -implicitDefEqProofs
  · exact hR _ (.pure rfl (.refl _))
  · have h := lit_of (n := 24) hlt (by decide) ht
    refine CallF.pure h.evs_ok (by decide) ?_
    simp -implicitDefEqProofs
    refine CallF.pure (NormalP_ok _ h.few) (by decide) ?_
    simp -implicitDefEqProofs
    refine CallF.pure (NormalL_ok _ h.few) (by decide) ?_
    simp -implicitDefEqProofs
    have hnl := (normal_facts (eventsP l)).1
    have hfl := h.few.len
    refine CallF.pure (EqInts_ok _ _ (by show _ ≤ _; omega) (by show _ ≤ _; omega)) (by decide) ?_
    simp -implicitDefEqProofs
    refine CallF.pure (FormP_ok' _ h.few) (by decide) ?_
    simp -implicitDefEqProofs
    refine CallF.pure (FormL_ok' _ h.few) (by decide) ?_
    simp -implicitDefEqProofs
    refine CallF.pure (Equal_ok _ _ (few_form h.few) (few_form h.few)) (by decide) ?_
    simp -implicitDefEqProofs
    exact hR _ (.pure rfl (.refl _))

theorem BraidTwice_ok (l : List EE) (hl : short l) (ht : ∀ e ∈ l, e.t ≤ 255) : APure TC 4 [.slice (l.map encEE)] (.bool true) := by
  refine afn_enter Try.func4 rfl rfl rfl (by decide) (Nat.le_of_ble_eq_true rfl) (by kernel_rfl) fun L K hL hR hN hP => ?_
  simp -implicitDefEqProofs
  refine CallF.pure Awake12_ok (by decide) ?_
  simp -implicitDefEqProofs
  refine CallF.pure (Light_ok l 24 hl) (by decide) ?_
  rcases hlt : lightP l 24 <;> simp -implicitDefEqProofs
  · exact hR _ (.pure rfl (.refl _))
  · have h := lit_of (n := 24) hlt (by decide) ht
    have hf := h.few
    refine CallF.pure h.evs_ok (by decide) ?_
    simp -implicitDefEqProofs
    have q0 := FormP_ok' _ hf
    have q1 := FormP_ok' _ (few_form hf)
    have q2 := Equal_ok _ _ (few_form (few_form hf)) (few_form hf)
    have q3 := SameP_ok _ _ (few_form hf) hf
    have q4 := Initials_ok _ (few_form hf)
    have q5 := Initials_ok _ hf
    have e1 := form_form (eventsP l)
    have e2 := (form_eqv (eventsP l)).length
    have e3 : sameP (formP (eventsP l)) (eventsP l) = true := by unfold sameP; rw [e1]; simp -implicitDefEqProofs
    have e4 := (init_eqv (form_eqv (eventsP l))).symm
    rw [e1] at q1 q2; rw [e3] at q3; rw [e4] at q4
    generalize eventsP l = x at *
    generalize formP x = f at *
    refine CallF.pure q0 (by decide) ?_
    simp -implicitDefEqProofs [e2]
    refine CallF.pure q1 (by decide) ?_
    simp -implicitDefEqProofs
    refine CallF.pure q2 (by decide) ?_
    simp -implicitDefEqProofs
    refine CallF.pure q3 (by decide) ?_
    simp -implicitDefEqProofs
    refine CallF.pure q4 (by decide) ?_
    simp -implicitDefEqProofs
    refine CallF.pure q5 (by decide) ?_
    simp -implicitDefEqProofs [encU]
    exact hR _ (.pure rfl (.refl _))
end Go.Awp.R1

/- Whatever comes of events by swaps. -/
namespace Go.Awp.B

def swS (x : List Ev) (out : List (List Ev)) (i : Nat) : List (List Ev) := if out.contains (swapP x i) = true then out else out ++ [swapP x i]
def allRow (len : Nat) (x : List Ev) (out : List (List Ev)) : List (List Ev) := (List.range len).foldl (swS x) out
def allF (len : Nat) : Nat → Nat → List (List Ev) → List (List Ev)
  | 0, _, out => out
  | f + 1, n, out => if n < out.length ∧ out.length < 800 then allF len f (n + 1) (allRow len (out.getD n []) out) else out
def allP (l : List Ev) : List (List Ev) := allF l.length 800 0 [l]

theorem swS_prefix (x : List Ev) (out : List (List Ev)) (i : Nat) : ∃ t, swS x out i = out ++ t ∧ t.length ≤ 1 := by
  unfold swS; split
  · exact ⟨[], by simp, by simp⟩
  · exact ⟨[_], rfl, by simp⟩
theorem allFold_prefix (x : List Ev) (is : List Nat) (out : List (List Ev)) : ∃ t, is.foldl (swS x) out = out ++ t ∧ t.length ≤ is.length := by
  induction is generalizing out with
  | nil => exact ⟨[], by simp, by simp⟩
  | cons i is ih =>
    obtain ⟨t1, h1, q1⟩ := swS_prefix x out i
    obtain ⟨t2, h2, q2⟩ := ih (swS x out i)
    exact ⟨t1 ++ t2, by rw [List.foldl_cons, h2, h1]; simp, by simp; omega⟩

/-! ### How many orders there are -/
def ins {α : Type} (a : α) : List α → List (List α)
  | [] => [[a]]
  | b :: l => (a :: b :: l) :: (ins a l).map (b :: ·)
def perms {α : Type} : List α → List (List α)
  | [] => [[]]
  | a :: l => (perms l).flatMap (ins a)
def fac : Nat → Nat
  | 0 => 1
  | n + 1 => (n + 1) * fac n
theorem ins_length {α : Type} (a : α) (l : List α) : (ins a l).length = l.length + 1 := by
  induction l with
  | nil => rfl
  | cons b l ih => simp [ins, ih]
theorem mem_ins {α : Type} (a : α) (u v : List α) : u ++ a :: v ∈ ins a (u ++ v) := by
  induction u with
  | nil => cases v <;> simp [ins]
  | cons b u ih => simp [ins, ih]
theorem perm_perms {α : Type} {l y : List α} (h : l.Perm y) : y ∈ perms l := by
  induction l generalizing y with
  | nil => have := h.symm.eq_nil; subst this; simp [perms]
  | cons a l ih =>
    obtain ⟨u, v, rfl⟩ := List.append_of_mem (h.subset List.mem_cons_self)
    have h2 : l.Perm (u ++ v) := (List.perm_cons a).1 (h.trans List.perm_middle)
    unfold perms
    exact List.mem_flatMap.2 ⟨u ++ v, ih h2, mem_ins a u v⟩
theorem perms_elem {α : Type} (l : List α) : ∀ y ∈ perms l, y.length = l.length := by
  induction l with
  | nil => intro y hy; simp [perms] at hy; simp [hy]
  | cons a l ih =>
    intro y hy
    obtain ⟨z, hz, hy⟩ := List.mem_flatMap.1 hy
    have key : ∀ (z : List α), ∀ y ∈ ins a z, y.length = z.length + 1 := by
      intro z
      induction z with
      | nil => intro y hy; simp [ins] at hy; simp [hy]
      | cons b z ihz =>
        intro y hy
        simp [ins] at hy
        rcases hy with rfl | ⟨w, hw, rfl⟩
        · simp
        · simp [ihz w hw]
    rw [key z y hy, ih z hz]; rfl
theorem perms_length {α : Type} (l : List α) : (perms l).length = fac l.length := by
  induction l with
  | nil => rfl
  | cons a l ih =>
    unfold perms
    rw [List.length_flatMap]
    have : ∀ (zs : List (List α)), (∀ z ∈ zs, z.length = l.length) → (zs.map fun z => (ins a z).length).sum = (l.length + 1) * zs.length := by
      intro zs
      induction zs with
      | nil => simp
      | cons z zs ihz =>
        intro h
        simp only [List.map_cons, List.sum_cons, List.length_cons]
        rw [ihz fun z hz => h z (List.mem_cons_of_mem _ hz), ins_length, h z List.mem_cons_self, Nat.mul_succ]; omega
    rw [this _ (perms_elem l), ih]; rfl
theorem nodup_sub {α : Type} [DecidableEq α] {a b : List α} (hn : a.Nodup) (hs : ∀ x ∈ a, x ∈ b) : a.length ≤ b.length := by
  induction a generalizing b with
  | nil => simp
  | cons x a ih =>
    obtain ⟨h1, h2⟩ := List.nodup_cons.1 hn
    have hx := hs x List.mem_cons_self
    have := ih (b := b.erase x) h2 fun y hy => by
      have hne : y ≠ x := fun e => h1 (e ▸ hy)
      exact (List.mem_erase_of_ne hne).2 (hs y (List.mem_cons_of_mem _ hy))
    rw [List.length_erase_of_mem hx] at this
    have : 0 < b.length := List.length_pos_of_mem hx
    simp; omega
theorem fac_le {n : Nat} (h : n ≤ 5) : fac n ≤ 120 := by
  have : n = 0 ∨ n = 1 ∨ n = 2 ∨ n = 3 ∨ n = 4 ∨ n = 5 := by omega
  rcases this with rfl | rfl | rfl | rfl | rfl | rfl <;> decide

/-! ### Swaps by their place -/
theorem exch_append (u v : List Ev) (a b : Ev) : exch (u ++ a :: b :: v) u.length = u ++ b :: a :: v := by
  have h0 : at' (u ++ a :: b :: v) u.length = a := by unfold at'; simp
  have h1 : at' (u ++ a :: b :: v) (u.length + 1) = b := by unfold at'; simp
  unfold exch
  rw [h0, h1]
  simp
theorem sw_swapP {w x : List Ev} (h : Sw w x) : ∃ i, i < w.length ∧ swapP w i = x := by
  cases h with | mk u a b v h =>
  refine ⟨u.length, by simp, ?_⟩
  have h0 : at' (u ++ a :: b :: v) u.length = a := by unfold at'; simp
  have h1 : at' (u ++ a :: b :: v) (u.length + 1) = b := by unfold at'; simp
  unfold swapP mayB
  rw [h0, h1, h, exch_append]
  simp
theorem split_at {w : List Ev} {i : Nat} (h : i + 1 < w.length) : w = w.take i ++ at' w i :: at' w (i + 1) :: w.drop (i + 2) := by
  rw [at_eq (by omega), at_eq h]
  rw [← List.drop_eq_getElem_cons h, ← List.drop_eq_getElem_cons (by omega), List.take_append_drop]
theorem exch_sw {w : List Ev} {i : Nat} (h : i + 1 < w.length) (hd : depend (at' w i) (at' w (i + 1)) = false) : Sw w (exch w i) := by
  have hl : (w.take i).length = i := by simp; omega
  have e := exch_append (w.take i) (w.drop (i + 2)) (at' w i) (at' w (i + 1))
  rw [hl, ← split_at h] at e
  rw [e]
  have := Sw.mk (w.take i) (at' w i) (at' w (i + 1)) (w.drop (i + 2)) hd
  rwa [← split_at h] at this
theorem swapP_eqv (w : List Ev) (i : Nat) : Eqv w (swapP w i) := by
  unfold swapP
  split
  · rename_i h
    have h1 := mayB_lt h
    unfold mayB at h
    simp at h
    exact .one (exch_sw h1 h.2)
  · exact .refl _

/-- What is known of the rows that were found. -/
structure Found (l : List Ev) (n : Nat) (out : List (List Ev)) : Prop where
  nodup : out.Nodup
  eqv : ∀ y ∈ out, Eqv l y
  mem : l ∈ out
  closed : ∀ m, m < n → ∀ i, i < l.length → swapP (out.getD m []) i ∈ out

theorem Found.len {l : List Ev} {n : Nat} {out : List (List Ev)} (h : Found l n out) (hl : l.length ≤ 5) : out.length ≤ 120 := by
  have := nodup_sub h.nodup (b := perms l) fun y hy => perm_perms (h.eqv y hy).perm
  rw [perms_length] at this
  exact Nat.le_trans this (fac_le hl)
theorem contains_iff {out : List (List Ev)} {y : List Ev} : out.contains y = true ↔ y ∈ out := List.contains_iff_mem
theorem Found.row {l : List Ev} {n : Nat} {out : List (List Ev)} (h : Found l n out) (hn : n < out.length) : Found l (n + 1) (allRow l.length (out.getD n []) out) := by
  have hx : out.getD n [] ∈ out := by rw [List.getD_eq_getElem?_getD, List.getElem?_eq_getElem hn]; exact List.getElem_mem _
  generalize hxx : out.getD n [] = x at hx
  have key : ∀ (is : List Nat) (o : List (List Ev)), o.Nodup → (∀ y ∈ o, Eqv l y) → (is.foldl (swS x) o).Nodup ∧ (∀ y ∈ is.foldl (swS x) o, Eqv l y) ∧ (∀ y ∈ o, y ∈ is.foldl (swS x) o) ∧ ∀ i ∈ is, swapP x i ∈ is.foldl (swS x) o := by
    intro is
    induction is with
    | nil => intro o h1 h2; exact ⟨h1, h2, fun _ h => h, by simp⟩
    | cons i is ih =>
      intro o h1 h2
      have hmem : swapP x i ∈ swS x o i := by
        unfold swS; split
        · rename_i hc; exact contains_iff.1 hc
        · simp
      have hnd : (swS x o i).Nodup := by
        unfold swS; split
        · exact h1
        · rename_i hc
          refine List.nodup_append.2 ⟨h1, by simp, fun a ha b hb e => hc (contains_iff.2 ?_)⟩
          rw [List.mem_singleton.1 hb] at e; subst e; exact ha
      have heq : ∀ y ∈ swS x o i, Eqv l y := by
        intro y hy
        unfold swS at hy
        split at hy
        · exact h2 y hy
        · rcases List.mem_append.1 hy with hy | hy
          · exact h2 y hy
          · rw [List.mem_singleton.1 hy]; exact (h.eqv x hx).trans (swapP_eqv x i)
      have hsub : ∀ y ∈ o, y ∈ swS x o i := by
        intro y hy; unfold swS; split
        · exact hy
        · exact List.mem_append_left _ hy
      obtain ⟨q1, q2, q3, q4⟩ := ih (swS x o i) hnd heq
      refine ⟨q1, q2, fun y hy => q3 y (hsub y hy), fun k hk => ?_⟩
      rcases List.mem_cons.1 hk with rfl | hk
      · exact q3 _ hmem
      · exact q4 k hk
  obtain ⟨q1, q2, q3, q4⟩ := key (List.range l.length) out h.nodup h.eqv
  obtain ⟨t, ht, _⟩ := allFold_prefix x (List.range l.length) out
  refine ⟨q1, q2, q3 _ h.mem, fun m hm i hi => ?_⟩
  have hg : (allRow l.length x out).getD m [] = out.getD m [] := by
    unfold allRow; rw [ht]
    rw [List.getD_eq_getElem?_getD, List.getD_eq_getElem?_getD, List.getElem?_append_left (by omega)]
  rw [hg]
  by_cases e : m = n
  · subst e; rw [hxx]; exact q4 i (by simpa using hi)
  · exact q3 _ (h.closed m (by omega) i hi)
theorem Found.start (l : List Ev) : Found l 0 [l] := ⟨by simp, by intro y hy; simp at hy; subst hy; exact .refl _, by simp, fun m hm => by omega⟩
theorem Found.all {l : List Ev} (hl : l.length ≤ 5) : ∀ (f n : Nat) (out : List (List Ev)), Found l n out → n ≤ out.length → 200 ≤ f + n → ∃ m, out.length ≤ (allF l.length f n out).length ∧ (allF l.length f n out).length ≤ m ∧ Found l m (allF l.length f n out) := by
  intro f
  induction f with
  | zero => intro n out h hn hf; have := h.len hl; omega
  | succ f ih =>
    intro n out h hn hf
    unfold allF
    have hlen := h.len hl
    split
    · rename_i hc
      have hr := h.row hc.1
      obtain ⟨t, ht, _⟩ := allFold_prefix (out.getD n []) (List.range l.length) out
      have hge : out.length ≤ (allRow l.length (out.getD n []) out).length := by unfold allRow; rw [ht]; simp
      obtain ⟨m, q1, q2, q3⟩ := ih (n + 1) _ hr (by omega) (by omega)
      exact ⟨m, by omega, q2, q3⟩
    · rename_i hc
      exact ⟨n, Nat.le_refl _, by omega, h⟩
/-- **All of them are found.** -/
theorem allP_iff {l : List Ev} (hl : l.length ≤ 5) (y : List Ev) : y ∈ allP l ↔ Eqv l y := by
  obtain ⟨m, _, hm, h⟩ := Found.all hl 800 0 [l] (.start l) (by simp) (by omega)
  refine ⟨h.eqv y, fun hy => ?_⟩
  have key : ∀ {w y : List Ev}, Eqv w y → w.length = l.length → w ∈ allP l → y ∈ allP l := by
    intro w y hwy
    induction hwy with
    | refl => intro _ hw; exact hw
    | step hs _ ih =>
      intro hwl hw
      refine ih (by rw [hs.length]; exact hwl) ?_
      obtain ⟨i, hi, rfl⟩ := sw_swapP hs
      obtain ⟨k, hk, rfl⟩ := List.getElem_of_mem hw
      have := h.closed k (by unfold allP at hk; omega) i (by omega)
      have hk' : k < (allF l.length 800 0 [l]).length := hk
      rw [List.getD_eq_getElem?_getD, List.getElem?_eq_getElem hk'] at this
      exact this
  exact key hy rfl h.mem
theorem allP_len {l : List Ev} (hl : l.length ≤ 5) : (allP l).length ≤ 120 := by
  obtain ⟨m, _, hm, h⟩ := Found.all hl 800 0 [l] (.start l) (by simp) (by omega)
  exact h.len hl
end Go.Awp.B

/- Whatever comes of events by swaps; one taken out. -/
namespace Go.Awp.R1
open Go Go.Awp Go.Proofs Go.Awp.B

def encL (x : List Ev) : V := .slice (x.map encE)
attribute [simp] encL

theorem ix_ge {α : Type} (l : List α) (p : α → Bool) : decide (ix l p ≥ 0) = l.any p := by
  unfold ix
  cases h : l.findIdx? p with
  | some i =>
    obtain ⟨h1, h2, _⟩ := List.findIdx?_eq_some_iff_getElem.1 h
    have : l.any p = true := List.any_eq_true.2 ⟨l[i], List.getElem_mem _, h2⟩
    rw [this]; simp -implicitDefEqProofs
  | none =>
    rw [List.findIdx?_eq_none_iff] at h
    have : l.any p = false := by rw [List.any_eq_false]; intro x hx; simp -implicitDefEqProofs [h x hx]
    rw [this]; simp -implicitDefEqProofs

theorem AllF1_ok (y z : List Ev) (hy : Few y) (hz : Few z) : APure TC 51 [encL z, .rptr (encL y)] (.bool (decide (y = z))) := by
  refine afn_enter Try.func51 rfl rfl rfl (by decide) (Nat.le_of_ble_eq_true rfl) (by kernel_rfl) fun L K hL hR hN hP => ?_
  simp -implicitDefEqProofs
  refine CallF.pure (Equal_ok y z hy hz) (by decide) ?_
  simp -implicitDefEqProofs
  exact hR _ (.pure rfl (.refl _))
theorem WholeF1_ok (y z : List Ev) (hy : Few y) (hz : Few z) : APure TC 40 [encL z, .rptr (encL y)] (.bool (decide (y = z))) := by
  refine afn_enter Try.func40 rfl rfl rfl (by decide) (Nat.le_of_ble_eq_true rfl) (by kernel_rfl) fun L K hL hR hN hP => ?_
  simp -implicitDefEqProofs
  refine CallF.pure (Equal_ok y z hy hz) (by decide) ?_
  simp -implicitDefEqProofs
  exact hR _ (.pure rfl (.refl _))

theorem IndexEvs_ok (l : List (List Ev)) (p : List Ev → Bool) (fid : FuncId) (cap : List V) (hl : l.length ≤ 100000) (h : ∀ m ∈ l, APure TC fid (encL m :: cap) (.bool (p m))) : APure TC 57 [.slice (l.map encL), .func (.func fid) [] cap] (.int .i64 (ix l p)) := by
  refine afn_enter Try.func57 rfl rfl rfl (by decide) (Nat.le_of_ble_eq_true rfl) (by kernel_rfl) fun L K hL hR hN hP => ?_
  simp -implicitDefEqProofs
  refine loopJ (α := Nat) (fun k => k ≤ l.length ∧ ∀ i (hi : i < l.length), i < k → p l[i] = false)
    (fun k => [(0, .slice (l.map encL)), (1, .func (.func fid) [] cap), (7, .int .i64 l.length), (8, .int .i64 k)]) (fun _ => []) (fun k => l.length - k) 0 (by simp -implicitDefEqProofs) (turn_weak (by simp -implicitDefEqProofs) (by simp -implicitDefEqProofs) (by simp -implicitDefEqProofs)) ?_
  rintro k L1 K1 ⟨hk, hpre⟩ hL1 _ hnext hex hrt - -
  simp -implicitDefEqProofs
  refine CondC.mk (fun hb => ?_) (fun hb => ?_)
  · have hlt : k < l.length := by simpa using hb
    have hx : l[k]? = some l[k] := List.getElem?_eq_getElem hlt
    simp -implicitDefEqProofs [hx]
    refine CallF.pure (h l[k] (List.getElem_mem _)) (by decide) ?_
    rcases hp : p l[k] <;> simp -implicitDefEqProofs [wr1 k (by omega)]
    · refine hnext _ (k + 1) ⟨by omega, fun i hi hik => ?_⟩ (by omega) (turn_weak (by simp -implicitDefEqProofs) (by simp -implicitDefEqProofs) (by simp -implicitDefEqProofs))
      by_cases e : i = k
      · subst e; exact hp
      · exact hpre i hi (by omega)
    · refine hrt _ ?_
      refine hR _ (.pure rfl ?_)
      rw [ix_some hlt hp hpre]
      exact .refl _
  · refine hex _ _ ?_
    simp -implicitDefEqProofs
    refine hR _ (.pure rfl ?_)
    have hkn : ¬ k < l.length := by simpa using hb
    rw [ix_none fun i hi => hpre i hi (by omega)]
    exact .refl _

theorem ContEvs_ok (l : List (List Ev)) (p : List Ev → Bool) (fid : FuncId) (cap : List V) (hl : l.length ≤ 100000) (h : ∀ m ∈ l, APure TC fid (encL m :: cap) (.bool (p m))) : APure TC 39 [.slice (l.map encL), .func (.func fid) [] cap] (.bool (l.any p)) := by
  refine afn_enter Try.func39 rfl rfl rfl (by decide) (Nat.le_of_ble_eq_true rfl) (by kernel_rfl) fun L K hL hR hN hP => ?_
  simp -implicitDefEqProofs
  refine CallF.pure (IndexEvs_ok l p fid cap hl h) (by decide) ?_
  simp -implicitDefEqProofs
  refine hR _ (.pure rfl ?_)
  rw [← ix_ge]
  exact .refl _

/-- The same program; here the literals of rows of rows are one's own. -/
noncomputable def TCo : Ctx := { TC with own := [39] }
@[simp] theorem TCoP : TCo.P = TC.P := rfl
@[simp] theorem TCoex : TCo.ex = [] := rfl
@[simp] theorem TCoown : TCo.own = [39] := rfl

theorem all_few {l x : List Ev} (hl : Few l) (h : Eqv l x) : Few x := ⟨by rw [h.length]; exact hl.len, fun e he => hl.m e (h.perm.symm.subset he)⟩

theorem All_ok (l : List Ev) (hl : Few l) : APure TC 25 [encL l] (.slice ((allP l).map encL)) := by
  have hl0 := hl.len
  refine AFn.ctx (C := TCo) rfl rfl ?_
  refine afn_enter Try.func25 rfl rfl rfl (by decide) (Nat.le_of_ble_eq_true rfl) (by kernel_rfl) fun L K hL hR hN hP => ?_
  simp -implicitDefEqProofs
  refine loopJ (α := Nat × List (List Ev)) (fun x => x.1 ≤ 800 ∧ allP l = allF l.length (800 - x.1) x.1 x.2 ∧ (∀ y ∈ x.2, Eqv l y) ∧ x.2.length ≤ 2000)
    (fun x => [(0, .slice (l.map encE)), (3, .vec (L, 0) x.2.length), (4, .int .i64 x.1)])
    (fun x => [((L, 0), .vec 25 1 (x.2.map encL) x.2.length true)]) (fun x => 800 - x.1) (0, [l]) ⟨by simp -implicitDefEqProofs, rfl, by intro y hy; simp -implicitDefEqProofs at hy; subst hy; exact .refl _, by simp -implicitDefEqProofs⟩ (turn_weak (by simp -implicitDefEqProofs) (by simp -implicitDefEqProofs) (by simp -implicitDefEqProofs)) ?_
  rintro ⟨n, out⟩ L1 K1 ⟨hn, hall, hq, hol⟩ hL1 - hnext hex hrt - -
  simp -implicitDefEqProofs at hn hall hq hol hL1
  have n1 : L ≠ L1 := by omega
  rcases hc : decide (n < out.length ∧ out.length < 800) with _ | _
  · have hend : allP l = out := by
      rw [hall]
      have hc' : ¬ (n < out.length ∧ out.length < 800) := by simpa using hc
      cases hf : 800 - n with
      | zero => rfl
      | succ f => unfold allF; rw [if_neg hc']
    have : out.length ≤ n ∨ 800 ≤ out.length := by
      have hc' : ¬ (n < out.length ∧ out.length < 800) := by simpa using hc
      omega
    by_cases h1 : n < out.length
    · have h2 : ¬ (out.length : Int) < 800 := by omega
      simp -implicitDefEqProofs [h1, h2]
      refine hex _ _ ?_
      simp -implicitDefEqProofs
      refine hR _ (.pure rfl ?_)
      rw [hend]
      exact .vec (t := 25) (s := 1) (es := out.map encL) (wr := true) (by simp -implicitDefEqProofs) (frzL_refl _)
    · simp -implicitDefEqProofs [h1]
      refine hex _ _ ?_
      simp -implicitDefEqProofs
      refine hR _ (.pure rfl ?_)
      rw [hend]
      exact .vec (t := 25) (s := 1) (es := out.map encL) (wr := true) (by simp -implicitDefEqProofs) (frzL_refl _)
  · have hc' : n < out.length ∧ out.length < 800 := by simpa using hc
    obtain ⟨c1, c2⟩ := hc'
    have hstep : allF l.length (800 - n) n out = allF l.length (800 - (n + 1)) (n + 1) (allRow l.length (out.getD n []) out) := by
      rw [show 800 - n = (800 - (n + 1)) + 1 by omega]
      conv => lhs; unfold allF
      rw [if_pos ⟨c1, c2⟩]
    have hxn : out[n]? = some (out.getD n []) := by rw [List.getD_eq_getElem?_getD, List.getElem?_eq_getElem c1]; rfl
    have hxq : Eqv l (out.getD n []) := hq _ (List.mem_of_getElem? hxn)
    have hxf := all_few hl hxq
    generalize out.getD n [] = x at hstep hxn hxq hxf
    have c2i : (out.length : Int) < 800 := by omega
    simp -implicitDefEqProofs [c1, c2i]
    refine loopJ (α := Nat × List (List Ev)) (fun y => y.1 ≤ l.length ∧ y.2 = (List.range y.1).foldl (swS x) out ∧ (∀ z ∈ y.2, Eqv l z) ∧ y.2.length ≤ out.length + y.1)
      (fun y => [(0, .slice (l.map encE)), (3, .vec (L, 0) y.2.length), (4, .int .i64 n), (21, .int .i64 l.length), (22, .int .i64 y.1)])
      (fun y => [((L, 0), .vec 25 1 (y.2.map encL) y.2.length true)]) (fun y => l.length - y.1) (0, out) ⟨by simp -implicitDefEqProofs, rfl, hq, by simp -implicitDefEqProofs⟩ (turn_weak (by simp -implicitDefEqProofs) (by simp -implicitDefEqProofs) (by simp -implicitDefEqProofs)) ?_
    rintro ⟨i, o⟩ L2 K2 ⟨hi, ho, hqo, hlen⟩ hL2 - hnext2 hex2 hrt2 - -
    simp -implicitDefEqProofs at hi ho hqo hlen hL2
    have n2 : L ≠ L2 := by omega
    simp -implicitDefEqProofs
    refine CondC.mk (fun hb => ?_) (fun hb => ?_)
    · have hlt : i < l.length := by simpa using hb
      have hfs : (List.range (i + 1)).foldl (swS x) out = swS x o i := by rw [List.range_succ, List.foldl_append, ho]; rfl
      obtain ⟨tl, htl, _⟩ := allFold_prefix x (List.range i) out
      have hno : n < o.length := by rw [ho, htl]; simp -implicitDefEqProofs; omega
      have hon : o[n] = x := by
        have : o[n]? = some x := by rw [ho, htl, List.getElem?_append_left c1]; exact hxn
        rw [List.getElem?_eq_getElem hno] at this; simpa using this
      have hse := swapP_eqv x i
      have hsf := few_swap hxf i
      have hcont := ContEvs_ok o (fun z => decide (swapP x i = z)) 51 [.rptr (encL (swapP x i))] (by omega) fun z hz => AllF1_ok (swapP x i) z hsf (all_few hl (hqo z hz))
      have hany : (o.any fun z => decide (swapP x i = z)) = o.contains (swapP x i) := by
        rw [Bool.eq_iff_iff, List.any_eq_true, contains_iff]
        constructor
        · rintro ⟨z, hz, e⟩; simp -implicitDefEqProofs at e; rw [e]; exact hz
        · intro h; exact ⟨_, h, by simp -implicitDefEqProofs⟩
      rw [hany] at hcont
      simp -implicitDefEqProofs [hno, hon, n1, n1.symm, n2, n2.symm]
      refine CallF.pure (AFn.ctx (C := TC) rfl rfl (SwapL_ok x i hxf (by omega))) (by decide) ?_
      simp -implicitDefEqProofs [n1, n1.symm, n2, n2.symm]
      refine CallF.borrow (AFn.ctx (C := TC) rfl rfl hcont) (.cons (.vec (t := 25) (s := 1) (es := o.map encL) (wr := true) (by simp -implicitDefEqProofs [n2, n2.symm]) (frzL_refl _)) (.cons (.func .nil (.cons (.cell (t := 25) (c := encL (swapP x i)) (by simp -implicitDefEqProofs [n2, n2.symm]) (.refl _)) .nil)) .nil)) rfl (by decide) ?_
      have d1 : o.length ≤ 9223372036854775806 := by omega
      have d2 : (o.length + 1) * 24 ≤ 140737488355328 := by omega
      rcases hcc : o.contains (swapP x i) <;> simp -implicitDefEqProofs [n1, n1.symm, n2, n2.symm, d1, d2, wr1 i (by omega)]
      · refine hnext2 _ (i + 1, o ++ [swapP x i]) ⟨by simp -implicitDefEqProofs; omega, by rw [hfs]; unfold swS; rw [hcc]; rfl, ?_, by simp -implicitDefEqProofs; omega⟩ (by simp -implicitDefEqProofs; omega) (turn_weak (by simp -implicitDefEqProofs) (by simp -implicitDefEqProofs) (by simp -implicitDefEqProofs))
        intro z hz
        rcases List.mem_append.1 hz with hz | hz
        · exact hqo z hz
        · rw [List.mem_singleton.1 hz]; exact hxq.trans hse
      · exact hnext2 _ (i + 1, o) ⟨by simp -implicitDefEqProofs; omega, by rw [hfs]; unfold swS; rw [hcc]; rfl, hqo, by simp -implicitDefEqProofs; omega⟩ (by simp -implicitDefEqProofs; omega) (turn_weak (by simp -implicitDefEqProofs) (by simp -implicitDefEqProofs) (by simp -implicitDefEqProofs))
    · refine hex2 _ _ ?_
      have hin : ¬ i < l.length := by simpa using hb
      have hil : i = l.length := by omega
      subst hil
      simp -implicitDefEqProofs [wr1 n (by omega)]
      exact hnext _ (n + 1, o) ⟨by simp -implicitDefEqProofs; omega, by rw [hall, hstep, ho]; rfl, hqo, by simp -implicitDefEqProofs; omega⟩ (by simp -implicitDefEqProofs; omega) (turn_weak (by simp -implicitDefEqProofs) (by simp -implicitDefEqProofs) (by simp -implicitDefEqProofs))

theorem DelEv_ok (id : Id) (ver : Nat) (es : List Ev) (i : Nat) (hl : es.length ≤ 1000) (hi : i < es.length) :
    AFn TC 31 [.vec id ver, .int .i64 i, .int .i64 (i + 1 : Nat)] [(id, .vec 38 2 (es.map encE) ver true)] fun _ o σ' => o = .ret (.vsub id ver 2 0 (es.length - 1)) ∧
      σ' = [(id, .vec 38 2 ((es.eraseIdx i).map encE ++ [.agg [.int .i64 0, .snil]]) ver true)] := by
  refine afn_enter Try.func31 rfl rfl rfl (by decide) (Nat.le_of_ble_eq_true rfl) (by kernel_rfl) fun L K hL hR hN hP => ?_
  have h1 : i + 1 ≤ es.length := by omega
  have h2 : ((i : Int) == (i : Int) + 1) = false := by simp -implicitDefEqProofs; omega
  have h3 : i ≤ es.length := by omega
  have h4 : i + (es.length - (i + 1)) = es.length - 1 := by omega
  have h5 : i + (es.length - (i + 1)) ≤ es.length := by omega
  have h6 : es.length - 1 ≤ es.length := by omega
  have h7 : es.length - (es.length - 1) = 1 := by omega
  have h8 : es.length - 1 + 1 = es.length := by omega
  have her : (es.eraseIdx i).length = es.length - 1 := List.length_eraseIdx_of_lt hi
  have key : ∀ X : List V, X.length = es.length → X.take (es.length - 1) = (es.eraseIdx i).map encE → overL X (es.length - 1) [.agg [.int .i64 0, .snil]] = (es.eraseIdx i).map encE ++ [.agg [.int .i64 0, .snil]] := fun X hX hT => by
    unfold overL
    rw [hT, List.drop_eq_nil_of_le (by simp -implicitDefEqProofs; omega), List.append_nil]
  by_cases hlast : i + 1 = es.length
  · have h9 : es.length - (i + 1) = 0 := by omega
    have k1 := key (es.map encE) (by simp -implicitDefEqProofs) (by rw [← List.map_take, List.eraseIdx_eq_take_drop_succ, List.drop_eq_nil_of_le (by omega), List.append_nil]; congr 2; omega)
    have k2 : (overL (es.map encE) (es.length - 1) [.agg [.int .i64 0, .snil]]).length = es.length := by rw [k1]; simp -implicitDefEqProofs; omega
    have hi1 : es.length - 1 = i := by omega
    have h11 : es.length - i = 1 := by omega
    rw [hi1] at k1 k2
    simp -implicitDefEqProofs [h1, h2, h3, h9, h11, k2]
    exact hR _ (.keep [] [(id, .vec 38 2 (overL (es.map encE) i [.agg [.int .i64 0, .snil]]) ver true)] rfl (by simp -implicitDefEqProofs) (by simp -implicitDefEqProofs) (by simp -implicitDefEqProofs) (by simp -implicitDefEqProofs) (.refl _) ⟨by rw [hi1], by rw [k1]⟩)
  · have h9 : ¬ es.length - (i + 1) = 0 := by omega
    have h10 : ¬ es.length ≤ i + 1 := by omega
    obtain ⟨X, hX⟩ : ∃ X, X = overL (es.map encE) i (((es.map encE).drop (i + 1)).take (es.length - (i + 1))) := ⟨_, rfl⟩
    have hXl : X.length = es.length := by rw [hX]; unfold overL; simp -implicitDefEqProofs; omega
    have k1 := key X hXl (by
      rw [hX]; unfold overL
      rw [List.take_of_length_le (l := (es.map encE).drop (i + 1)) (by simp -implicitDefEqProofs), List.take_append_of_le_length (by simp -implicitDefEqProofs; omega), List.take_of_length_le (by simp -implicitDefEqProofs; omega), List.eraseIdx_eq_take_drop_succ]
      simp -implicitDefEqProofs [List.map_take, List.map_drop])
    have k2 : (overL X (es.length - 1) [.agg [.int .i64 0, .snil]]).length = es.length := by rw [k1]; simp -implicitDefEqProofs; omega
    simp -implicitDefEqProofs [h1, h2, h3, h4, h5, h6, h9, h10, ← hX]
    simp -implicitDefEqProofs [h6, h7, h8, k2, hXl]
    exact hR _ (.keep [] [(id, .vec 38 2 (overL X (es.length - 1) [.agg [.int .i64 0, .snil]]) ver true)] rfl (by simp -implicitDefEqProofs) (by simp -implicitDefEqProofs) (by simp -implicitDefEqProofs) (by simp -implicitDefEqProofs) (.refl _) ⟨rfl, by rw [k1]⟩)
end Go.Awp.R1

/- The statements on orders, in plain words. -/
namespace Go.Awp.B

def Thr64 (l : List Ev) : Prop := ∀ e ∈ l, 0 ≤ e.t ∧ e.t < 64

def wantS (l : List Ev) (b : BitVec 64) (i : Nat) : BitVec 64 := orB b (at' l i).t
theorem want_eq {l : List Ev} (h : Thr64 l) : (free l (List.range l.length)).foldl (wantS l) 0 = initP l := by
  rw [init_fold, free_eq l _ List.nodup_range, List.foldl_map]
  congr 1
  apply List.filter_congr
  intro i hi
  have := h _ (at_mem (l := l) (i := i) (by simpa using hi))
  simp [this.1, this.2]

def someS (b : BitVec 64) (y : List Ev) : BitVec 64 :=
  match y with
  | [] => b
  | e :: _ => orB b e.t
theorem some_eq {l : List Ev} (h : Thr64 l) (hl : l.length ≤ 5) : (allP l).foldl someS 0 = initP l := by
  have key : ∀ (L : List (List Ev)) (b : BitVec 64) (i : Nat), (L.foldl someS b).getLsbD i = (b.getLsbD i || (decide (i < 64) && L.any fun y => match y with | [] => false | e :: _ => decide (i = e.t.toNat))) := by
    intro L
    induction L with
    | nil => intro b i; simp
    | cons y L ih =>
      intro b i
      rw [List.foldl_cons, ih, List.any_cons]
      cases y with
      | nil => simp [someS]
      | cons e y =>
        simp only [someS]
        rw [orB_get]
        cases b.getLsbD i <;> cases decide (i < 64) <;> simp
  apply BitVec.eq_of_getLsbD_eq
  intro i hi
  rw [Bool.eq_iff_iff, init_get, key]
  simp only [BitVec.ofNat_eq_ofNat, BitVec.getLsbD_zero, Bool.false_or, Bool.and_eq_true, decide_eq_true_eq, List.any_eq_true]
  constructor
  · rintro ⟨h1, y, hy, h2⟩
    have hq := (allP_iff hl y).1 hy
    cases y with
    | nil => cases h2
    | cons e s =>
      simp at h2
      have hext : Ext e (e :: s) s := ⟨[], s, rfl, rfl, by simp⟩
      obtain ⟨r, hr, _⟩ := hext.of_eqv hq.symm
      have hm := h e (hq.perm.symm.subset List.mem_cons_self)
      exact ⟨h1, e, r, hr, by omega⟩
  · rintro ⟨h1, e, r, he, h2⟩
    exact ⟨h1, e :: r, (allP_iff hl _).2 he.eqv, by simp; omega⟩

/-! ### Two orders, by their pairs -/
theorem onlyP_cons (e a b : Ev) (l : List Ev) : onlyP (e :: l) a b = if (same e a || same e b) = true then e :: onlyP l a b else onlyP l a b := by
  unfold onlyP; rw [List.filter_cons]
theorem onlyP_append (l m : List Ev) (a b : Ev) : onlyP (l ++ m) a b = onlyP l a b ++ onlyP m a b := by unfold onlyP; exact List.filter_append _ _
theorem sw_only {w x : List Ev} (h : Sw w x) {a b : Ev} (hd : depend a b = true) : onlyP w a b = onlyP x a b := by
  cases h with | mk u c d v h =>
  simp only [onlyP_append, onlyP_cons]
  congr 1
  by_cases h1 : (same c a || same c b) = true
  · by_cases h2 : (same d a || same d b) = true
    · exfalso
      simp [same] at h1 h2
      rcases h1 with rfl | rfl <;> rcases h2 with rfl | rfl
      · rw [depend_self] at h; cases h
      · rw [hd] at h; cases h
      · rw [depend_comm, hd] at h; cases h
      · rw [depend_self] at h; cases h
    · rw [if_pos h1, if_neg h2, if_neg h2, if_pos h1]
  · rw [if_neg h1, if_neg h1]
theorem eqv_only {w x : List Ev} (h : Eqv w x) {a b : Ev} (hd : depend a b = true) : onlyP w a b = onlyP x a b := by
  induction h with
  | refl => rfl
  | step h _ ih => rw [sw_only h hd, ih]
theorem first_mem {e : Ev} {y : List Ev} (h : e ∈ y) : ∃ u v, y = u ++ e :: v ∧ e ∉ u := by
  induction y with
  | nil => cases h
  | cons c y ih =>
    by_cases hc : c = e
    · subst hc; exact ⟨[], y, rfl, by simp⟩
    · obtain ⟨u, v, rfl, hu⟩ := ih ((List.mem_cons.1 h).resolve_left fun e' => hc e'.symm)
      exact ⟨c :: u, v, rfl, by simp [hu, Ne.symm hc]⟩
theorem onlyP_none {u : List Ev} {a b : Ev} (h : ∀ c ∈ u, c ≠ a ∧ c ≠ b) : onlyP u a b = [] := by
  unfold onlyP
  rw [List.filter_eq_nil_iff]
  intro c hc
  obtain ⟨h1, h2⟩ := h c hc
  simp [same, h1, h2]
/-- **The same but for swaps, by pairs.** -/
theorem pairs_eqv : ∀ (x y : List Ev), x.Perm y → (∀ a ∈ x, ∀ b ∈ x, depend a b = true → onlyP x a b = onlyP y a b) → Eqv x y := by
  intro x
  induction x with
  | nil => intro y h _; rw [h.symm.eq_nil]; exact .refl _
  | cons e x ih =>
    intro y hp hy
    obtain ⟨u, v, rfl, hu⟩ := first_mem (hp.subset List.mem_cons_self)
    have hind : ∀ c ∈ u, depend c e = false := by
      intro c hc
      cases hd : depend c e with
      | false => rfl
      | true =>
        exfalso
        have hcx : c ∈ e :: x := hp.symm.subset (List.mem_append_left _ hc)
        have h1 := hy c hcx e List.mem_cons_self hd
        rw [onlyP_cons, if_pos (by simp [same]), onlyP_append] at h1
        have hne : onlyP u c e ≠ [] := by
          intro h0
          have : c ∈ onlyP u c e := List.mem_filter.2 ⟨hc, by simp [same]⟩
          rw [h0] at this; cases this
        obtain ⟨d, r, hdr⟩ := List.exists_cons_of_ne_nil hne
        rw [hdr] at h1
        injection h1 with h2 _
        have : d ∈ u := (List.mem_filter.1 (by show d ∈ onlyP u c e; rw [hdr]; exact List.mem_cons_self)).1
        exact hu (h2 ▸ this)
    have hp2 : x.Perm (u ++ v) := (List.perm_cons e).1 (hp.trans List.perm_middle)
    have h2 := ih (u ++ v) hp2 fun a ha b hb hd => by
      have h1 := hy a (List.mem_cons_of_mem _ ha) b (List.mem_cons_of_mem _ hb) hd
      rw [onlyP_cons, onlyP_append, onlyP_cons] at h1
      rw [onlyP_append]
      by_cases hc : (same e a || same e b) = true
      · rw [if_pos hc, if_pos hc] at h1
        have hn : onlyP u a b = [] := by
          apply onlyP_none
          intro c hc'
          have hi := hind c hc'
          simp [same] at hc
          refine ⟨fun ec => ?_, fun ec => ?_⟩
          · subst ec
            rcases hc with rfl | rfl
            · rw [depend_self] at hi; cases hi
            · rw [hd] at hi; cases hi
          · subst ec
            rcases hc with rfl | rfl
            · rw [depend_comm, hd] at hi; cases hi
            · rw [depend_self] at hi; cases hi
        rw [hn] at h1 ⊢
        simpa using h1
      · rw [if_neg hc, if_neg hc] at h1
        exact h1
    exact (h2.cons e).trans (Eqv.symm (front e u v hind))
end Go.Awp.B

/- BraidInitials, BraidSwaps: walked. -/
namespace Go.Awp.R1
open Go Go.Awp Go.Proofs Go.Awp.B

theorem Lit.thr64 {l : List EE} {n : Nat} (_ : Lit l n) : Thr64 (eventsP l) := by
  intro e he
  obtain ⟨x, hx, rfl⟩ := List.mem_map.1 he
  have : (eventOf x).t = ((x.t % 5 : Nat) : Int) := rfl
  omega

theorem BraidInitials_ok (l : List EE) (few : Bool) (hl : short l) (ht : ∀ e ∈ l, e.t ≤ 255) : APure TC 5 [.slice (l.map encEE), .bool few] (.bool true) := by
  refine afn_enter Try.func5 rfl rfl rfl (by decide) (Nat.le_of_ble_eq_true rfl) (by kernel_rfl) fun L K hL hR hN hP => ?_
  simp -implicitDefEqProofs
  refine CallF.pure Awake12_ok (by decide) ?_
  simp -implicitDefEqProofs
  refine CallF.pure (Light_ok l 20 hl) (by decide) ?_
  rcases hlt : lightP l 20 <;> simp -implicitDefEqProofs
  · exact hR _ (.pure rfl (.refl _))
  have h := lit_of (n := 20) hlt (by decide) ht
  have hf := h.few
  have h64 := h.thr64
  have hlen := h.evs
  refine CallF.pure h.evs_ok (by decide) ?_
  have hwant := want_eq h64
  generalize eventsP l = x at *
  simp -implicitDefEqProofs
  refine wait_turn (turn_thaw (t := 7) (el := 3) (sz := 1) (by simp -implicitDefEqProofs) (by decide)) ?_
  refine loopJ (α := Nat) (fun k => k ≤ x.length)
    (fun k => [(5, .slice (x.map encE)), (6, encU 0), (7, .vec (L, 0) k), (22, .int .i64 x.length), (23, .int .i64 k)])
    (fun k => [((L, 0), .vec 3 1 ((List.range k).map encI) k true)]) (fun k => x.length - k) 0 (by simp -implicitDefEqProofs) (turn_weak (by simp -implicitDefEqProofs [encU]) (by simp -implicitDefEqProofs) (by simp -implicitDefEqProofs)) ?_
  rintro k L1 K1 hk hL1 hk1 hnext hex hrt - -
  simp -implicitDefEqProofs
  refine CondC.mk (fun hb => ?_) (fun hb => ?_)
  · have hlt : k < x.length := by simpa using hb
    have c1 : k ≤ 9223372036854775806 := by omega
    have c2 : (k + 1) * 8 ≤ 140737488355328 := by omega
    simp -implicitDefEqProofs [c1, c2, wr1 k (by omega)]
    exact hnext _ (k + 1) (by omega) (by omega) (turn_weak (by simp -implicitDefEqProofs) (by simp -implicitDefEqProofs [List.range_succ]) (by simp -implicitDefEqProofs))
  refine hex _ _ ?_
  have hkn : ¬ k < x.length := by simpa using hb
  have hkl : k = x.length := by omega
  subst hkl
  simp -implicitDefEqProofs
  refine CallF.frzP [((L, 0), .vec 3 1 ((List.range x.length).map encI) x.length true)] (free_ok x (List.range x.length) hf (by simp -implicitDefEqProofs; omega) (by simp -implicitDefEqProofs)) (.cons (.refl _) (.cons (.vec (t := 3) (s := 1) (es := (List.range x.length).map encI) (wr := true) (by simp -implicitDefEqProofs) (frzL_refl _)) .nil)) (by simp -implicitDefEqProofs) (by decide) rfl ?_
  have hfl : (free x (List.range x.length)).length ≤ 1000 := by rw [free_eq x _ List.nodup_range]; have := List.length_filter_le (fun i => firstP x i (List.range x.length)) (List.range x.length); simp -implicitDefEqProofs at this; omega
  have hfm : ∀ i ∈ free x (List.range x.length), i < x.length := fun i hi => by rw [free_eq x _ List.nodup_range] at hi; simpa using (List.mem_filter.1 hi).1
  generalize free x (List.range x.length) = fr at *
  simp -implicitDefEqProofs [Store.less]
  refine loopJ (α := Nat × BitVec 64) (fun y => y.1 ≤ fr.length ∧ y.2 = (fr.take y.1).foldl (wantS x) 0)
    (fun y => [(5, .slice (x.map encE)), (6, encU y.2), (33, .slice (fr.map encI)), (34, .int .i64 fr.length), (35, .int .i64 y.1)])
    (fun y => []) (fun y => fr.length - y.1) (0, 0) (by simp -implicitDefEqProofs) (turn_weak (by simp -implicitDefEqProofs) (by simp -implicitDefEqProofs) (by simp -implicitDefEqProofs)) ?_
  rintro ⟨j, b⟩ L2 K2 ⟨hj, hs⟩ hL2 - hnext2 hex2 hrt2 - -
  simp -implicitDefEqProofs at hj hs hL2
  simp -implicitDefEqProofs
  refine CondC.mk (fun hb => ?_) (fun hb => ?_)
  · have hlt : j < fr.length := by simpa using hb
    have hfs := fold_succ (wantS x) 0 hlt
    rw [show (0 : BitVec 64) = 0#64 from rfl, ← hs] at hfs
    have hil : fr[j] < x.length := hfm _ (List.getElem_mem _)
    have hx : fr[j]? = some fr[j] := List.getElem?_eq_getElem hlt
    generalize fr[j] = i at hfs hil hx
    obtain ⟨q1, q2⟩ := h64 _ (at_mem hil)
    obtain ⟨tn, htn⟩ : ∃ tn : Nat, (at' x i).t = tn := ⟨(at' x i).t.toNat, by omega⟩
    have hmin : min tn IntKind.u64.bits = tn := by show min tn 64 = tn; omega
    simp -implicitDefEqProofs [hx, at_get hil, htn, hmin, encU, or_step b tn (by omega), wr1 j (by omega)]
    exact hnext2 _ (j + 1, orB b tn) ⟨by simp -implicitDefEqProofs; omega, by rw [show (0 : BitVec 64) = 0#64 from rfl, hfs]; unfold wantS; rw [htn]⟩ (by simp -implicitDefEqProofs; omega) (turn_weak (by simp -implicitDefEqProofs [encU]) (by simp -implicitDefEqProofs) (by simp -implicitDefEqProofs))
  refine hex2 _ _ ?_
  have hjn : ¬ j < fr.length := by simpa using hb
  rw [List.take_of_length_le (by omega)] at hs
  have hbw : b = initP x := hs.trans hwant
  subst hbw
  simp -implicitDefEqProofs
  refine CallF.pure (Initials_ok x hf) (by decide) ?_
  simp -implicitDefEqProofs [encU]
  by_cases h5 : x.length ≤ 5
  · have g5 : ¬ (x.length : Int) > 5 := by omega
    have g5' : ¬ (5 : Int) < x.length := by omega
    simp -implicitDefEqProofs [g5']
    refine CallF.pure (All_ok x hf) (by decide) ?_
    have hsome := some_eq h64 h5
    have hal := allP_len h5
    have haq := fun y => (allP_iff h5 y).1
    generalize allP x = A at *
    simp -implicitDefEqProofs
    refine loopJ (α := Nat × BitVec 64) (fun y => y.1 ≤ A.length ∧ y.2 = (A.take y.1).foldl someS 0)
      (fun y => [(6, encU (initP x)), (11, encU y.2), (56, .slice (A.map encL)), (57, .int .i64 A.length), (58, .int .i64 y.1)])
      (fun y => []) (fun y => A.length - y.1) (0, 0) (by simp -implicitDefEqProofs) (turn_weak (by simp -implicitDefEqProofs [encU]) (by simp -implicitDefEqProofs) (by simp -implicitDefEqProofs)) ?_
    rintro ⟨j, b⟩ L3 K3 ⟨hj, hs⟩ hL3 - hnext3 hex3 hrt3 - -
    simp -implicitDefEqProofs at hj hs hL3
    simp -implicitDefEqProofs
    refine CondC.mk (fun hb => ?_) (fun hb => ?_)
    · have hlt : j < A.length := by simpa using hb
      have hfs := fold_succ someS 0 hlt
      rw [show (0 : BitVec 64) = 0#64 from rfl, ← hs] at hfs
      have hx : A[j]? = some A[j] := List.getElem?_eq_getElem hlt
      have hq := haq A[j] (List.getElem_mem _)
      generalize A[j] = y at hfs hx hq
      cases y with
      | nil =>
        simp -implicitDefEqProofs [hx, wr1 j (by omega)]
        exact hnext3 _ (j + 1, b) ⟨by simp -implicitDefEqProofs; omega, by rw [show (0 : BitVec 64) = 0#64 from rfl, hfs]; rfl⟩ (by simp -implicitDefEqProofs; omega) (turn_weak (by simp -implicitDefEqProofs [encU]) (by simp -implicitDefEqProofs) (by simp -implicitDefEqProofs))
      | cons e y =>
        obtain ⟨q1, q2⟩ := h64 e (hq.perm.symm.subset List.mem_cons_self)
        obtain ⟨tn, htn⟩ : ∃ tn : Nat, e.t = tn := ⟨e.t.toNat, by omega⟩
        have hmin : min tn IntKind.u64.bits = tn := by show min tn 64 = tn; omega
        have hpos : (0 : Int) < (y.length : Int) + 1 := by omega
        simp -implicitDefEqProofs [hx, htn, hmin, hpos, encU, or_step b tn (by omega), wr1 j (by omega)]
        exact hnext3 _ (j + 1, orB b tn) ⟨by simp -implicitDefEqProofs; omega, by rw [show (0 : BitVec 64) = 0#64 from rfl, hfs]; show orB b tn = orB b e.t; rw [htn]⟩ (by simp -implicitDefEqProofs; omega) (turn_weak (by simp -implicitDefEqProofs [encU]) (by simp -implicitDefEqProofs) (by simp -implicitDefEqProofs))
    · refine hex3 _ _ ?_
      have hjn : ¬ j < A.length := by simpa using hb
      rw [List.take_of_length_le (by omega)] at hs
      have hbw : b = initP x := hs.trans hsome
      subst hbw
      simp -implicitDefEqProofs [encU]
      exact hR _ (.pure rfl (.refl _))
  · have g5' : (5 : Int) < x.length := by omega
    simp -implicitDefEqProofs [g5']
    exact hR _ (.pure rfl (.refl _))

/-- Numbers of a byte each. -/
def encB (n : Nat) : V := .int .u8 n
attribute [simp] encB

set_option maxRecDepth 100000 in
theorem BraidSwaps_ok (l : List EE) (at_ : List Nat) (last : Int) (hl : short l) (ht : ∀ e ∈ l, e.t ≤ 255) (hal : short at_) (hat : ∀ k ∈ at_, k ≤ 255) (hlast : 0 ≤ last ∧ last ≤ 255) :
    APure TC 6 [.slice (l.map encEE), .slice (at_.map encB), .int .u8 last] (.bool true) := by
  refine afn_enter Try.func6 rfl rfl rfl (by decide) (Nat.le_of_ble_eq_true rfl) (by kernel_rfl) fun L K hL hR hN hP => ?_
  simp -implicitDefEqProofs
  refine CallF.pure Awake12_ok (by decide) ?_
  simp -implicitDefEqProofs
  refine CallF.pure (Light_ok l 20 hl) (by decide) ?_
  have yes : ∀ s : ASt, resAll TC.P s [.tmp 6] = some [.bool true] → K .ret s := fun s hs => hR _ (.pure hs (.refl _))
  rcases hlt : lightP l 20 <;> simp -implicitDefEqProofs
  · exact yes _ rfl
  have h := lit_of (n := 20) hlt (by decide) ht
  rcases h2 : decide ((l.length : Int) < 2) <;> simp -implicitDefEqProofs [h2]
  case true => exact yes _ rfl
  rcases h80 : decide ((80 : Int) < at_.length) <;> simp -implicitDefEqProofs [h80]
  case true => exact yes _ rfl
  have hf := h.few
  have hlen : (eventsP l).length = l.length := by unfold eventsP; simp -implicitDefEqProofs
  have hl2 : 2 ≤ l.length := by simp -implicitDefEqProofs at h2; omega
  have hl20 : l.length ≤ 20 := h.len
  have hat80 : at_.length ≤ 80 := by simp -implicitDefEqProofs at h80; omega
  refine CallF.pure h.evs_ok (by decide) ?_
  generalize eventsP l = x at *
  simp -implicitDefEqProofs
  refine loopJ (α := Nat × List Ev) (fun y => y.1 ≤ at_.length ∧ Eqv x y.2)
    (fun y => [(2, .int .u8 last), (7, .slice (x.map encE)), (8, .slice (y.2.map encE)), (35, .slice (at_.map encB)), (36, .int .i64 at_.length), (37, .int .i64 y.1)])
    (fun y => []) (fun y => at_.length - y.1) (0, x) ⟨by simp -implicitDefEqProofs, .refl _⟩ (turn_weak (by simp -implicitDefEqProofs) (by simp -implicitDefEqProofs) (by simp -implicitDefEqProofs)) ?_
  rintro ⟨k, y⟩ L1 K1 ⟨hk, hq⟩ hL1 - hnext hex hrt - -
  simp -implicitDefEqProofs at hk hq hL1
  have hyl : y.length = x.length := hq.length
  have hyf : Few y := all_few hf hq
  simp -implicitDefEqProofs
  refine CondC.mk (fun hb => ?_) (fun hb => ?_)
  · have hlt : k < at_.length := by simpa using hb
    have hx : at_[k]? = some at_[k] := List.getElem?_eq_getElem hlt
    have hv := hat _ (List.getElem_mem hlt)
    generalize at_[k] = v at hx hv
    have hrem : Int.tmod (v : Int) (x.length : Int) = ((v % x.length : Nat) : Int) := by rw [Int.tmod_eq_emod_of_nonneg (by omega)]; rfl
    have hi : v % x.length < x.length := Nat.mod_lt _ (by omega)
    have hx0 : ¬ x.length = 0 := by omega
    have hx0' : ¬ x = [] := by intro e; subst e; simp -implicitDefEqProofs at hx0
    generalize v % x.length = i at hrem hi
    have q0 : i < y.length := by omega
    have hsw := SwapB_ok y i hyf (by omega)
    have hsl := SwapL_ok y i hyf (by omega)
    have hsf := few_swap hyf i
    simp -implicitDefEqProofs [hx, wrN v (by omega), hrem, hx0']
    refine CallF.pure hsw (by decide) ?_
    have hfin : K1 .normal = K1 .normal := rfl
    rcases hm : decide ((i : Int) + 1 < y.length) <;> simp -implicitDefEqProofs [wr1 i (by omega), hm]
    · have hmay : mayB y i = false := by unfold mayB; simp -implicitDefEqProofs at hm ⊢; omega
      have he : swap2 y i = [] := by unfold swap2; rw [hmay]; rfl
      simp -implicitDefEqProofs [hmay, he]
      refine CallF.pure hsl (by decide) ?_
      simp -implicitDefEqProofs [wr1 k (by omega)]
      exact hnext _ (k + 1, swapP y i) ⟨by simp -implicitDefEqProofs; omega, hq.trans (swapP_eqv y i)⟩ (by simp -implicitDefEqProofs; omega) (turn_weak (by simp -implicitDefEqProofs) (by simp -implicitDefEqProofs) (by simp -implicitDefEqProofs))
    · have q1 : i + 1 < y.length := by simp -implicitDefEqProofs at hm; omega
      simp -implicitDefEqProofs [at_get q0, at_get q1, wr1 i (by omega)]
      refine CallF.pure (Depend_ok (at' y i) (at' y (i + 1)) (hyf.at q0) (hyf.at q1)) (by decide) ?_
      have hmay : mayB y i = !depend (at' y i) (at' y (i + 1)) := by unfold mayB; simp -implicitDefEqProofs [q1]
      rcases hd : depend (at' y i) (at' y (i + 1)) <;> rw [hd] at hmay <;> simp -implicitDefEqProofs at hmay
      · have he : swap2 y i = swapP y i := by unfold swap2 swapP; rw [hmay]; rfl
        simp -implicitDefEqProofs [hmay, he]
        refine CallF.pure hsl (by decide) ?_
        simp -implicitDefEqProofs
        refine CallF.pure (Equal_ok _ _ hsf hsf) (by decide) ?_
        simp -implicitDefEqProofs
        refine CallF.pure hsl (by decide) ?_
        simp -implicitDefEqProofs [wr1 k (by omega)]
        exact hnext _ (k + 1, swapP y i) ⟨by simp -implicitDefEqProofs; omega, hq.trans (swapP_eqv y i)⟩ (by simp -implicitDefEqProofs; omega) (turn_weak (by simp -implicitDefEqProofs) (by simp -implicitDefEqProofs) (by simp -implicitDefEqProofs))
      · have he : swap2 y i = [] := by unfold swap2; rw [hmay]; rfl
        simp -implicitDefEqProofs [hmay, he]
        refine CallF.pure hsl (by decide) ?_
        simp -implicitDefEqProofs [wr1 k (by omega)]
        exact hnext _ (k + 1, swapP y i) ⟨by simp -implicitDefEqProofs; omega, hq.trans (swapP_eqv y i)⟩ (by simp -implicitDefEqProofs; omega) (turn_weak (by simp -implicitDefEqProofs) (by simp -implicitDefEqProofs) (by simp -implicitDefEqProofs))
  refine hex _ _ ?_
  have hform : formP x = formP y := form_iff.2 hq
  have hsame : sameP x y = true := by unfold sameP; rw [hform]; simp -implicitDefEqProofs
  have fx := FormP_ok' x hf
  rw [hform] at fx
  have ss := SameP_ok x y hf hyf
  rw [hsame] at ss
  have w1 : IntKind.i64.wrap ((y.length : Int) - 1) = ((y.length - 1 : Nat) : Int) := by rw [wrap_i64] <;> omega
  obtain ⟨ln, hln⟩ : ∃ ln : Nat, last = ln := ⟨last.toNat, by omega⟩
  subst hln
  have hrem : Int.tmod (ln : Int) ((y.length - 1 : Nat) : Int) = ((ln % (y.length - 1) : Nat) : Int) := by rw [Int.tmod_eq_emod_of_nonneg (by omega)]; rfl
  have hi : ln % (y.length - 1) < y.length - 1 := Nat.mod_lt _ (by omega)
  have hy1 : ¬ y.length - 1 = 0 := by omega
  generalize ln % (y.length - 1) = i at hrem hi
  have q0 : i < y.length := by omega
  have q1 : i + 1 < y.length := by omega
  simp -implicitDefEqProofs
  refine CallF.pure ss (by decide) ?_
  simp -implicitDefEqProofs
  refine CallF.pure fx (by decide) ?_
  simp -implicitDefEqProofs
  refine CallF.pure (FormP_ok' y hyf) (by decide) ?_
  simp -implicitDefEqProofs
  refine CallF.pure (Equal_ok _ _ (few_form hyf) (few_form hyf)) (by decide) ?_
  simp -implicitDefEqProofs [w1, wrN ln (by omega), hrem, hy1, at_get q0, at_get q1, wr1 i (by omega)]
  refine CallF.pure (Depend_ok (at' y i) (at' y (i + 1)) (hyf.at q0) (hyf.at q1)) (by decide) ?_
  rcases hd : depend (at' y i) (at' y (i + 1)) <;> simp -implicitDefEqProofs
  · exact yes _ rfl
  simp -implicitDefEqProofs [at_get q0, at_get q1, wr1 i (by omega)]
  refine CallF.pure (Same_ok (at' y i) (at' y (i + 1)) (hyf.at q0) (hyf.at q1)) (by decide) ?_
  rcases hsm : same (at' y i) (at' y (i + 1)) <;> simp -implicitDefEqProofs
  case true => exact yes _ rfl
  refine CallF.made (Clone_ok y hyf.len) (by decide) rfl ?_
  intro L' k' ver h1' h2'
  have g0 : y[i] = at' y i := (at_eq q0).symm
  have g1 : y[i + 1] = at' y (i + 1) := (at_eq q1).symm
  have hz : exch y i = (y.set i (at' y (i + 1))).set (i + 1) (at' y i) := rfl
  have hzf : Few (exch y i) := ⟨by rw [exch_length]; exact hyf.len, fun e he => hyf.m e (exch_mem q1 e he)⟩
  have hzm : ((y.map encE).set i (encE (at' y (i + 1)))).set (i + 1) (encE (at' y i)) = (exch y i).map encE := by rw [hz]; simp only [List.map_set]
  have sz := SameP_ok x (exch y i) hf hzf
  have fz := FormL_ok' (exch y i) hzf
  have ez := Equal_ok _ _ (few_form hf) (few_form hzf)
  have hse : sameP x (exch y i) = decide (formP x = formP (exch y i)) := rfl
  generalize exch y i = z at *
  simp only [encE] at hzm
  simp -implicitDefEqProofs [wr1 i (by omega), q0, q1, g0, g1, hzm]
  refine CallF.borrow sz (.cons (.refl _) (.cons (.vec (t := 38) (s := 2) (es := z.map encE) (wr := true) (by simp -implicitDefEqProofs) (frzL_refl _)) .nil)) rfl (by decide) ?_
  simp -implicitDefEqProofs
  refine CallF.pure (FormL_ok' x hf) (by decide) ?_
  simp -implicitDefEqProofs
  refine CallF.frzP [((L', k'), .vec 38 2 (z.map encE) ver true)] fz (.cons (.vec (t := 38) (s := 2) (es := z.map encE) (wr := true) (by simp -implicitDefEqProofs) (frzL_refl _)) .nil) (by simp -implicitDefEqProofs) (by decide) rfl ?_
  simp -implicitDefEqProofs [Store.less]
  refine CallF.pure ez (by decide) ?_
  simp -implicitDefEqProofs [hse]
  exact yes _ rfl
end Go.Awp.R1

/- BraidWhole: walked. -/
namespace Go.Awp.R1
open Go Go.Awp Go.Proofs Go.Awp.B

theorem erase_perm {l : List Ev} {k : Nat} (hk : k < l.length) : (l[k] :: l.eraseIdx k).Perm l := by
  rw [List.eraseIdx_eq_take_drop_succ]
  have e : l = l.take k ++ l[k] :: l.drop (k + 1) := by rw [← List.drop_eq_getElem_cons hk, List.take_append_drop]
  have h := (List.perm_middle (a := l[k]) (l₁ := l.take k) (l₂ := l.drop (k + 1))).symm
  rwa [← e] at h
theorem pick_perm {left y x : List Ev} {k : Nat} (h : (left ++ y).Perm x) (hk : k < left.length) : (left.eraseIdx k ++ (y ++ [left[k]])).Perm x := by
  refine List.Perm.trans ?_ h
  have h1 : (left.eraseIdx k ++ (y ++ [left[k]])).Perm (left[k] :: (left.eraseIdx k ++ y)) := by
    rw [← List.append_assoc]
    exact (List.perm_append_comm).trans (List.Perm.refl _)
  exact h1.trans ((erase_perm hk).append_right y)
theorem any_all {x y : List Ev} (h : x.length ≤ 5) : ((allP x).any fun z => decide (y = z)) = decide (formP x = formP y) := by
  rw [Bool.eq_iff_iff, List.any_eq_true]
  simp only [decide_eq_true_eq]
  rw [form_iff, ← allP_iff h]
  constructor
  · rintro ⟨z, hz, rfl⟩; exact hz
  · intro h; exact ⟨_, h, rfl⟩
theorem perm_few {l x : List Ev} (hl : Few l) (h : x.Perm l) : Few x := ⟨by rw [h.length_eq]; exact hl.len, fun e he => hl.m e (h.subset he)⟩

set_option maxRecDepth 100000 in
theorem BraidWhole_ok (l : List EE) (order : List Nat) (hl : short l) (ht : ∀ e ∈ l, e.t ≤ 255) (ho : short order) (hot : ∀ k ∈ order, k ≤ 255) :
    APure TC 10 [.slice (l.map encEE), .slice (order.map encB)] (.bool true) := by
  refine afn_enter Try.func10 rfl rfl rfl (by decide) (Nat.le_of_ble_eq_true rfl) (by kernel_rfl) fun L K hL hR hN hP => ?_
  simp -implicitDefEqProofs
  refine CallF.pure Awake12_ok (by decide) ?_
  simp -implicitDefEqProofs
  refine CallF.pure (Light_ok l 5 hl) (by decide) ?_
  rcases hlt : lightP l 5 <;> simp -implicitDefEqProofs
  · exact hR _ (.pure rfl (.refl _))
  have h := lit_of (n := 5) hlt (by decide) ht
  have hf := h.few
  have h5 := h.evs
  refine CallF.pure h.evs_ok (by decide) ?_
  generalize eventsP l = x at *
  simp -implicitDefEqProofs
  refine CallF.made (Clone_ok x hf.len) (by decide) rfl ?_
  intro L' k' ver h1 h2
  have n1 : L ≠ L' := by omega
  simp -implicitDefEqProofs [n1, n1.symm]
  refine wait_turn (turn_thawC (id := (L, 0)) (t := 25) (o := 0) (el := 38) (sz := 2) (cs := [.snil]) (by simp -implicitDefEqProofs [n1, n1.symm]) rfl (by decide)) ?_
  simp -implicitDefEqProofs [n1, n1.symm]
  refine loopJ (α := Nat × List Ev × List Ev × Nat) (fun y => y.1 ≤ x.length ∧ y.2.2.1.length = y.1 ∧ y.2.1.length + y.1 = x.length ∧ (y.2.1 ++ y.2.2.1).Perm x)
    (fun y => [(1, .slice (order.map encB)), (5, .slice (x.map encE)), (6, .vec (L', k') y.2.2.2), (7, .ptr (L, 0) 0), (22, .int .i64 x.length), (23, .int .i64 y.1)])
    (fun y => [((L, 1), .vec 38 2 (y.2.2.1.map encE) y.1 true), ((L, 0), .cells 25 [.vec (L, 1) y.1]), ((L', k'), .vec 38 2 (y.2.1.map encE) y.2.2.2 true)]) (fun y => x.length - y.1) (0, x, [], ver) ⟨by simp -implicitDefEqProofs, rfl, by simp -implicitDefEqProofs, by simp -implicitDefEqProofs⟩ (turn_weak (by simp -implicitDefEqProofs) (by simp -implicitDefEqProofs) (by simp -implicitDefEqProofs)) ?_
  rintro ⟨i, left, y, v⟩ L1 K1 ⟨hi, hyl, hll, hp⟩ hL1 hk1 hnext hex hrt - -
  simp -implicitDefEqProofs at hi hyl hll hp hL1 hk1
  have n2 : L ≠ L1 := hk1.1
  have n3 : L' ≠ L1 := hk1.2
  simp -implicitDefEqProofs
  refine CondC.mk (fun hb => ?_) (fun hb => ?_)
  · have hlt : i < x.length := by simpa using hb
    have hpos : 0 < left.length := by omega
    have c1 : i ≤ 9223372036854775806 := by omega
    have c2 : (i + 1) * 32 ≤ 140737488355328 := by omega
    -- what follows, once k is known
    have fin : ∀ k, k < left.length → ∀ τ', τ'.lookup 6 = some (.vsub (L', k') v 2 0 (left.length - 1)) → (∀ p, p ∈ [((1 : Nat), V.slice (order.map encB)), (5, .slice (x.map encE)), (7, .ptr (L, 0) 0), (22, .int .i64 x.length), (23, .int .i64 (i + 1 : Nat))] → τ'.lookup p.1 = some p.2) →
        K1 .normal ⟨τ', [((L', k'), .vec 38 2 ((left.eraseIdx k).map encE ++ [.agg [.int .i64 0, .snil]]) v true), ((L, 1), .vec 38 2 ((y ++ [left.getD k default]).map encE) (i + 1) true), ((L, 0), .cells 25 [.vec (L, 1) (i + 1)])], 67, L1, 0⟩ := by
      intro k hk τ' h6 hτ
      have hel : (left.eraseIdx k).length = left.length - 1 := List.length_eraseIdx_of_lt hk
      have hgd : left.getD k default = left[k] := by rw [List.getD_eq_getElem?_getD, List.getElem?_eq_getElem hk]; rfl
      refine hnext ⟨τ', _, 67, L1, 0⟩ (i + 1, left.eraseIdx k, y ++ [left.getD k default], v + 1) ⟨by simp -implicitDefEqProofs; omega, by simp -implicitDefEqProofs; omega, by show (left.eraseIdx k).length + (i + 1) = x.length; omega, by rw [hgd]; exact pick_perm hp hk⟩ (by show x.length - (i + 1) < x.length - i; omega) ?_
      refine (turn_cut (t := 6) (id := L') (j := k') (ver := v) (z := 2) (el := 38) (len := left.length - 1) (es := (left.eraseIdx k).map encE ++ [.agg [.int .i64 0, .snil]]) h6 (by simp -implicitDefEqProofs) (by simp -implicitDefEqProofs; omega)).trans (turn_weak ?_ (by simp -implicitDefEqProofs [n1, n1.symm, hel]) (by simp -implicitDefEqProofs [n1, n1.symm]))
      intro p hp
      have : p = (6, .vec (L', k') (v + 1)) ∨ p ∈ [((1 : Nat), V.slice (order.map encB)), (5, .slice (x.map encE)), (7, .ptr (L, 0) 0), (22, .int .i64 x.length), (23, .int .i64 (i + 1 : Nat))] := by
        simp -implicitDefEqProofs at hp ⊢; rcases hp with h | h | h | h | h | h <;> simp -implicitDefEqProofs [h]
      rcases this with rfl | hp'
      · simp -implicitDefEqProofs
      · have h1 := hτ p hp'
        have : p.1 ≠ 6 := by simp -implicitDefEqProofs at hp'; rcases hp' with h | h | h | h | h <;> simp -implicitDefEqProofs [h]
        have hb : (p.1 == 6) = false := by simpa using this
        simp -implicitDefEqProofs [List.lookup_cons, hb, h1]
    by_cases hio : i < order.length
    · have hv := hot _ (List.getElem_mem hio)
      generalize hx : order[i] = u at hv
      have hrem : Int.tmod (u : Int) (left.length : Int) = ((u % left.length : Nat) : Int) := by rw [Int.tmod_eq_emod_of_nonneg (by omega)]; rfl
      have hk : u % left.length < left.length := Nat.mod_lt _ (by omega)
      have hl0 : ¬ left.length = 0 := by omega
      have hl0' : ¬ left = [] := by intro e; subst e; simp -implicitDefEqProofs at hl0
      generalize u % left.length = k at hrem hk
      have hgd : left.getD k default = left[k] := by rw [List.getD_eq_getElem?_getD, List.getElem?_eq_getElem hk]; rfl
      have f1 := fin k hk
      rw [hgd] at f1
      simp -implicitDefEqProofs [hio, hx, wrN u (by omega), hrem, hl0', hk, n1, n1.symm, n2, n2.symm, n3, n3.symm, hyl, c1, c2, wr1 k (by omega)]
      refine CallF.gen (DelEv_ok (L', k') v left k (by have := hf.len; omega) hk) (by simp -implicitDefEqProofs [n1, n1.symm]) (by simp -implicitDefEqProofs) (by decide) rfl ?_ ?_
      · rintro L'' w σ' q1 q2 ⟨e, rfl⟩
        cases e
        simp -implicitDefEqProofs [Store.less, n1, n1.symm, wr1 i (by omega)]
        simpa using f1 _ (by simp -implicitDefEqProofs) (by simp -implicitDefEqProofs)
      · rintro L'' w σ' q1 q2 ⟨e, rfl⟩
        cases e
    · have hgd : left.getD 0 default = left[0] := by rw [List.getD_eq_getElem?_getD, List.getElem?_eq_getElem hpos]; rfl
      have f1 := fin 0 hpos
      rw [hgd] at f1
      simp -implicitDefEqProofs [hio, hpos, n1, n1.symm, n2, n2.symm, n3, n3.symm, hyl, c1, c2]
      refine CallF.gen (DelEv_ok (L', k') v left 0 (by have := hf.len; omega) hpos) (by simp -implicitDefEqProofs [n1, n1.symm]) (by simp -implicitDefEqProofs) (by decide) rfl ?_ ?_
      · rintro L'' w σ' q1 q2 ⟨e, rfl⟩
        cases e
        simp -implicitDefEqProofs [Store.less, n1, n1.symm, wr1 i (by omega)]
        simpa using f1 _ (by simp -implicitDefEqProofs) (by simp -implicitDefEqProofs)
      · rintro L'' w σ' q1 q2 ⟨e, rfl⟩
        cases e
  refine hex _ _ ?_
  have hin : ¬ i < x.length := by simpa using hb
  have hl0 : left = [] := List.eq_nil_of_length_eq_zero (by omega)
  subst hl0
  simp -implicitDefEqProofs at hp
  have hyf := perm_few hf hp
  have hc := ContEvs_ok (allP x) (fun z => decide (y = z)) 40 [.rptr (encL y)] (by have := allP_len h5; omega) fun z hz => WholeF1_ok y z hyf (all_few hf ((allP_iff h5 z).1 hz))
  rw [any_all h5] at hc
  have s1 := SameP_ok x y hf hyf
  have s2 := SameP_ok y x hyf hf
  have e1 : sameP x y = decide (formP x = formP y) := rfl
  have e2 : sameP y x = decide (formP x = formP y) := by unfold sameP; rw [Bool.eq_iff_iff]; simp -implicitDefEqProofs; exact eq_comm
  rw [e1] at s1; rw [e2] at s2
  simp -implicitDefEqProofs
  refine CallF.pure (All_ok x hf) (by decide) ?_
  simp -implicitDefEqProofs
  refine CallF.borrow hc (.cons (.refl _) (.cons (.func .nil (.cons (.cell (t := 25) (c := .vec (L, 1) i) (by simp -implicitDefEqProofs) (.vec (t := 38) (s := 2) (es := y.map encE) (wr := true) (by simp -implicitDefEqProofs) (frzL_refl _))) .nil)) .nil)) rfl (by decide) ?_
  simp -implicitDefEqProofs
  refine CallF.borrow s1 (.cons (.refl _) (.cons (.vec (t := 38) (s := 2) (es := y.map encE) (wr := true) (by simp -implicitDefEqProofs) (frzL_refl _)) .nil)) rfl (by decide) ?_
  simp -implicitDefEqProofs
  refine CallF.borrow s2 (.cons (.vec (t := 38) (s := 2) (es := y.map encE) (wr := true) (by simp -implicitDefEqProofs) (frzL_refl _)) (.cons (.refl _) .nil)) rfl (by decide) ?_
  simp -implicitDefEqProofs
  exact hR _ (.pure rfl (.refl _))
end Go.Awp.R1
