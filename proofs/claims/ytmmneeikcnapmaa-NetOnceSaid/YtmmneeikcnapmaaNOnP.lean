/- NetOnce's plain part: what is under way, what was taken; make([]bool, n). -/
import Derived.Test.YtmmneeikcnapmaaNFul
namespace Go.Proofs.Ytmmneeikcnapmaa
open Go.RowKit
attribute [local go_sem] Oper.semAt_some

/-- message j, numbered -/
def mkM (l : List Ms) (j : Nat) : Ms := { (l[j]?.getD zeroM.m) with at_ := (j : Int) }
theorem mk_at {l : List Ms} {j : Nat} {x : Ms} (h : l[j]? = some x) : mkM l j = ⟨x.rule, x.route, j, x.ks, x.ss⟩ := by unfold mkM; rw [h]; rfl
def qs (l : List Ms) (js : List Nat) : List Ms := js.map (mkM l)
theorem qs_len (l : List Ms) (js : List Nat) : (qs l js).length = js.length := List.length_map ..
structure Inv (l : List Ms) (i : Nat) (js : List Nat) (us ts : List Bool) : Prop where
  lu : us.length = l.length
  lt : ts.length = l.length
  nd : js.Nodup
  mem : ∀ j ∈ js, j < l.length ∧ j < i ∧ us[j]? = some true ∧ ts[j]? = some false
  all : ∀ j : Nat, us[j]? = some true → ts[j]? = some true ∨ j ∈ js
  tk : ∀ j : Nat, ts[j]? = some true → us[j]? = some true ∧ j < i
  len : js.length ≤ 16
theorem Inv.start (l : List Ms) : Inv l 0 [] (List.replicate l.length false) (List.replicate l.length false) := by
  have h : ∀ j : Nat, (List.replicate l.length false)[j]? ≠ some true := fun j e => by
    rw [List.getElem?_replicate] at e
    split at e <;> simp at e
  exact ⟨List.length_replicate, List.length_replicate, List.nodup_nil, fun j hj => (by cases hj), fun j e => absurd e (h j), fun j e => absurd e (h j), by simp⟩
theorem set_get {us : List Bool} {i j : Nat} {b : Bool} (h : i < us.length) : (us.set i b)[j]? = if j = i then some b else us[j]? := by
  by_cases e : j = i
  · subst e
    rw [if_pos rfl, List.getElem?_set_self h]
  · rw [if_neg e, List.getElem?_set_ne (Ne.symm e)]
/-- one is sent -/
theorem Inv.send {l : List Ms} {i : Nat} {js : List Nat} {us ts : List Bool} (h : Inv l i js us ts) (hi : i < l.length) : ∃ b js', (sendE (qs l js) == 0) = b ∧ sendL (qs l js) (mkM l i) = qs l js' ∧ Inv l (i + 1) js' (us.set i b) ts ∧ (b = false → js'.length = 16) := by
  have hiu : i < us.length := by rw [h.lu]; exact hi
  have hit : i < ts.length := by rw [h.lt]; exact hi
  have htf : ts[i]? = some false := by
    rw [List.getElem?_eq_getElem hit]
    cases hh : ts[i] with
    | false => rfl
    | true =>
      have := (h.tk i (by rw [List.getElem?_eq_getElem hit, hh])).2
      omega
  have hni : ∀ j ∈ js, j ≠ i := fun j hj e => by have := (h.mem j hj).2.1; omega
  by_cases hn : js.length < 16
  · refine ⟨true, js ++ [i], by unfold sendE; rw [qs_len, if_pos hn]; rfl, by unfold sendL qs; rw [List.length_map, if_pos hn, List.map_append]; rfl, ⟨by rw [List.length_set]; exact h.lu, h.lt, ?_, fun j hj => ?_, fun j e => ?_, fun j e => ?_, by simp; omega⟩, fun e => by cases e⟩
    · rw [List.nodup_append]
      refine ⟨h.nd, by simp, fun a ha b hb e => ?_⟩
      obtain rfl : b = i := by simpa using hb
      exact hni a ha e
    · rw [set_get hiu]
      rcases List.mem_append.1 hj with hj | hj
      · obtain ⟨h1, h2, h3, h4⟩ := h.mem j hj
        exact ⟨h1, by omega, by rw [if_neg (hni j hj)]; exact h3, h4⟩
      · obtain rfl : j = i := by simpa using hj
        exact ⟨hi, by omega, if_pos rfl, htf⟩
    · rw [set_get hiu] at e
      split at e
      · rename_i hji
        subst hji
        exact .inr (by simp)
      · rcases h.all j e with h1 | h1
        · exact .inl h1
        · exact .inr (List.mem_append_left _ h1)
    · have h1 := h.tk j e
      exact ⟨by rw [set_get hiu, if_neg (by omega)]; exact h1.1, by omega⟩
  · refine ⟨false, js, by unfold sendE; rw [qs_len, if_neg hn]; rfl, by unfold sendL qs; rw [List.length_map, if_neg hn], ⟨by rw [List.length_set]; exact h.lu, h.lt, h.nd, fun j hj => ?_, fun j e => ?_, fun j e => ?_, h.len⟩, fun _ => by have := h.len; omega⟩
    · obtain ⟨h1, h2, h3, h4⟩ := h.mem j hj
      exact ⟨h1, by omega, by rw [set_get hiu, if_neg (hni j hj)]; exact h3, h4⟩
    · rw [set_get hiu] at e
      split at e
      · cases e
      · exact h.all j e
    · have h1 := h.tk j e
      exact ⟨by rw [set_get hiu, if_neg (by omega)]; exact h1.1, by omega⟩
theorem Inv.later {l : List Ms} {i : Nat} {js : List Nat} {us ts : List Bool} (h : Inv l i js us ts) : Inv l (i + 1) js us ts :=
  ⟨h.lu, h.lt, h.nd, fun j hj => by obtain ⟨h1, h2, h3⟩ := h.mem j hj; exact ⟨h1, by omega, h3⟩, h.all, fun j e => by have := h.tk j e; exact ⟨this.1, by omega⟩, h.len⟩
/-- one is taken -/
theorem Inv.take {l : List Ms} {i j k : Nat} {js : List Nat} {us ts : List Bool} (h : Inv l i js us ts) (hj : js[k]? = some j) : Inv l i (js.eraseIdx k) us (ts.set j true) := by
  have hm := h.mem j (List.mem_of_getElem? hj)
  have hjt : j < ts.length := by rw [h.lt]; exact hm.1
  have hk : k < js.length := (List.getElem?_eq_some_iff.1 hj).1
  have hnd : ∀ x ∈ js.eraseIdx k, x ≠ j := fun x hx e => by
    obtain ⟨n, hn1, hn2⟩ := List.mem_eraseIdx_iff_getElem?.1 hx
    subst e
    exact hn1 ((List.getElem?_inj (List.getElem?_eq_some_iff.1 hn2).1 h.nd).1 (hn2.trans hj.symm))
  refine ⟨h.lu, by rw [List.length_set]; exact h.lt, h.nd.eraseIdx k, fun x hx => ?_, fun x e => ?_, fun x e => ?_, by rw [List.length_eraseIdx_of_lt hk]; have := h.len; omega⟩
  · obtain ⟨h1, h2, h3, h4⟩ := h.mem x (List.mem_of_mem_eraseIdx hx)
    exact ⟨h1, h2, h3, by rw [set_get hjt, if_neg (hnd x hx)]; exact h4⟩
  · rw [set_get hjt]
    by_cases hxj : x = j
    · exact .inl (if_pos hxj)
    · rw [if_neg hxj]
      rcases h.all x e with h1 | h1
      · exact .inl h1
      · refine .inr (List.mem_eraseIdx_iff_getElem?.2 ?_)
        obtain ⟨n, hn⟩ := List.getElem?_of_mem h1
        refine ⟨n, fun e => hxj ?_, hn⟩
        subst e
        exact Option.some.inj (hn.symm.trans hj)
  · rw [set_get hjt] at e
    split at e
    · rename_i hxj
      subst hxj
      exact ⟨hm.2.2.1, hm.2.1⟩
    · exact h.tk x e
theorem Inv.done {l : List Ms} {i : Nat} {us ts : List Bool} (h : Inv l i [] us ts) : us = ts := by
  apply List.ext_getElem?
  intro j
  by_cases hj : j < l.length
  · obtain ⟨u, hu⟩ : ∃ u, us[j]? = some u := ⟨_, List.getElem?_eq_getElem (by rw [h.lu]; exact hj)⟩
    obtain ⟨t, ht⟩ : ∃ t, ts[j]? = some t := ⟨_, List.getElem?_eq_getElem (by rw [h.lt]; exact hj)⟩
    cases u with
    | true =>
      rcases h.all j hu with h3 | h3
      · rw [hu, h3]
      · cases h3
    | false =>
      cases t with
      | false => rw [hu, ht]
      | true =>
        have := (h.tk j ht).1
        rw [hu] at this
        cases this
  · rw [List.getElem?_eq_none (by rw [h.lu]; omega), List.getElem?_eq_none (by rw [h.lt]; omega)]
/-- bools in a block -/
def Bx (W : World) (b : Nat) (us : List Bool) : Prop := Box W b (us.map Value.bool).toArray 4
theorem Bx.at {W : World} {b j : Nat} {us : List Bool} {x : Bool} (h : Bx W b us) (hx : us[j]? = some x) : W.cell? ⟨b, j, none⟩ = some (.bool x) := by
  rw [Box.rd h |>.1, List.getElem?_toArray, List.getElem?_map, hx]
  rfl
theorem Bx.fz {W : World} {b : Nat} {us : List Bool} (h : Bx W b us) (j : Nat) : W.frozen? ⟨b, j, none⟩ = false := (Box.rd h).2 j
theorem Bx.set {W : World} {b : Nat} {us : List Bool} (h : Bx W b us) (j : Nat) (x : Bool) : Bx (W.setCell ⟨b, j, none⟩ (.bool x)) b (us.set j x) := by
  have := Box.set h (i := j) (.bool x)
  unfold Bx
  rw [List.map_set]
  simpa using this
theorem info_bool : (Try.prog.info? 4).map (fun i => (i.zero, i.size, i.bytes)) = some (some (.bool false), 1, 1) := by kernel_rfl
theorem wp_make_bools {P : Program} {w : World} {o : Oper} {a : Act} {K : Act → World → Prop} {Q : Exit → Act → World → Prop} (l c : Operand) (t : TypeId) (hop : o.op = Op.makeSlice t l c) (e : TypeId) (i : TypeInfo) (h1 : P.underlying t = some (.slice e)) (h2 : P.info? e = some i) (h3 : i.zero = some (.bool false)) (h4 : i.size = 1) (h5 : i.bytes = 1)
    (kl kc : IntKind) (n : Nat) (hl : a.eval l = .int kl n) (hc : a.eval c = .int kc n) (hn : n ≤ 1000)
    (hK : ∀ w', Box w' w.heap.size ((List.replicate n false).map Value.bool).toArray e → Below w.heap.size w w' → K (a.put o.dst (.slice (some ⟨w.heap.size, 0, none⟩) n n)) w') : o.wp P a w K Q := by
  obtain ⟨w', hrun, r1, r2⟩ := run_make_full (P := P) w w.heap.size t e i (.bool false) 1 h1 h2 h3 h4 kl kc n (by rw [h5]; omega) (by unfold maxLen; omega) (Nat.le_refl _)
  unfold Oper.wp
  simp [execOp, hop, hl, hc, hrun, Result.andThen]
  refine hK w' ?_ ((Below.refl _ w).grown r2 (Nat.le_refl _) (fun k e => by cases e))
  rcases r1.2 with ⟨h, _⟩ | ⟨g, cap, cur, h, hb, hg, k1, k2, k3, k4⟩
  · cases h
  · simp only [Value.slice.injEq, Option.some.injEq, Addr.mk.injEq, and_true, true_and] at h
    obtain ⟨rfl, rfl⟩ := h
    unfold Box
    rw [hg]
    have e1 : (madeCells (Value.bool false).cells (n * 1)).toList = List.replicate n (.bool false) := by
      rw [Nat.mul_one]
      exact toList_madeCells_one (.bool false) n
    rw [e1, List.take_of_length_le (by rw [Array.length_toList, k3]; exact Nat.le_refl _)] at k4
    have : cur = (List.replicate n (Value.bool false)).toArray := by rw [← k4, Array.toArray_toList]
    rw [this, List.map_replicate]
end Go.Proofs.Ytmmneeikcnapmaa
