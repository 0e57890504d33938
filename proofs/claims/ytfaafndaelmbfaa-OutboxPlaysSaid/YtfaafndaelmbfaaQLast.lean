/- A region that draws its order, whose last operation waits for all the others: walked in one order, each step by hand. -/
import Derived.StillTail
import Derived.OrdersHeld
import Derived.RegionTactic
import Derived.StillTailTactics
namespace Go.Proofs.Ytfaafndaelmbfaa

theorem get_of_list {ops : Array Oper} {i : Nat} {o : Oper} (h : ops.toList[i]? = some o) : ops[i]? = some o := by rw [← h, Array.getElem?_toList]
section
variable {P : Program} {ops : Array Oper} {Q : Exit → Act → World → Prop} {md : Region.Mode} {S : World → Prop} {m : Nat}
/-- whatever order is picked; S holds behind each operation but the last -/
def wpAnyG (P : Program) (md : Region.Mode) (ops : Array Oper) (Q : Exit → Act → World → Prop) (S : World → Prop) (m : Nat) : Nat → Array Bool → Act → World → Prop
  | 0, listed, a, w => Region.ready md ops listed = [] ∧ Q .normal a w
  | fuel + 1, listed, a, w =>
    (Region.ready md ops listed = [] → Q .normal a w) ∧
    ∀ i ∈ Region.ready md ops listed, wpOp P ops Q i (fun a' w' => (i = m ∨ S w') ∧ wpAnyG P md ops Q S m fuel (listed.setIfInBounds i true) a' w') a w
theorem wpAny_of_g : ∀ (fuel : Nat) (listed : Array Bool) (a : Act) (w : World), wpAnyG P md ops Q S m fuel listed a w → wpAny P md ops Q fuel listed a w
  | 0, _, _, _, h => h
  | fuel + 1, _, _, _, h => ⟨h.1, fun i hi => wpOp_mono (fun a' w' h' => wpAny_of_g fuel _ a' w' h'.2) (h.2 i hi)⟩
theorem wpAnyG_first (hs : Region.sinkB md ops m = true) (hc : Region.chainB md ops m = true) (hm : m < ops.size) {i : Nat} {oi : Oper} {v : Value} (him : i < m) (hi : ops[i]? = some oi) (hsel : ∀ (j : Nat) (o : Oper) cs b, ops[j]? = some o → o.op ≠ .select cs b)
    (hQ : ∀ c a w, Q (.panic c) (a.put oi.dst v) w → Q (.panic c) a w) :
    ∀ (fuel : Nat) (listed : Array Bool) (a : Act) (w : World), HeadInv md ops m listed →
      (∀ j oj, ops[j]? = some oj → j ≠ i → listed.getD j true = false → (∀ e ∈ oj.after, Region.binds md e = true → e.on ≠ i) → oi.apart ops oj = true) →
      i ∈ Region.ready md ops listed → YieldsIf P ops S oi v a → S w →
      wpAnyG P md ops Q S m fuel (listed.setIfInBounds i true) (a.put oi.dst v) w → wpAnyG P md ops Q S m (fuel + 1) listed a w := by
  intro fuel
  induction fuel with
  | zero =>
    intro listed a w _ _ hr hy hS H
    refine ⟨fun h => (by rw [h] at hr; cases hr), fun j hj => ?_⟩
    by_cases hji : j = i
    · subst hji; exact hy.wpOp hi hS ⟨.inr hS, H⟩
    · have := ready_mono hj hji
      rw [H.1] at this
      cases this
  | succ fuel ih =>
    intro listed a w inv hfree hr hy hS H
    refine ⟨fun h => (by rw [h] at hr; cases hr), fun j hj => ?_⟩
    by_cases hji : j = i
    · subst hji; exact hy.wpOp hi hS ⟨.inr hS, H⟩
    · have h1 := H.2 j (ready_mono hj hji)
      have hun := (mem_ready.1 hr).1
      obtain ⟨hjun, oj, hoj, hall⟩ := mem_ready.1 hj
      have hjm : j < m := by
        rcases Nat.lt_or_ge j m with h | h
        · exact h
        · exact absurd hj (tail_waits hs hc hm inv _ i rfl him hun j h)
      have hnot : ∀ e ∈ oj.after, Region.binds md e = true → e.on ≠ i := fun e he hb heq => by
        have h1 := hall e he hb
        rw [heq, getD_both hun] at h1
        cases h1
      have h2 := wpOp_putIf hoj (hfree j oj hoj hji hjun hnot) (fun cs b => hsel i oi cs b hi) (fun cs b => hsel j oj cs b hoj) hQ hy h1
      have hfree' : ∀ k ok, ops[k]? = some ok → k ≠ i → (listed.setIfInBounds j true).getD k true = false →
          (∀ e ∈ ok.after, Region.binds md e = true → e.on ≠ i) → oi.apart ops ok = true := fun k ok hk hki hun hno => by
        refine hfree k ok hk hki ?_ hno
        by_cases hjk : j = k
        · subst hjk; exact hjun
        · rw [getD_set_ne true hjk] at hun; exact hun
      refine wpOp_mono (fun a' w' h3 => ⟨h3.2.1, ?_⟩) h2
      have hS' : S w' := h3.2.1.resolve_left (by omega)
      refine ih (listed.setIfInBounds j true) a' w' (inv.set hj hjm) hfree' (ready_mono hr (Ne.symm hji)) h3.1 hS' ?_
      rw [Array.setIfInBounds_comm _ _ hji]
      exact h3.2.2

/-- one order, step by step -/
def wpOrd (P : Program) (md : Region.Mode) (ops : Array Oper) (Q : Exit → Act → World → Prop) (S : World → Prop) (m : Nat) : List Nat → Array Bool → Act → World → Prop
  | [], listed, a, w => Region.ready md ops listed = [] ∧ Q .normal a w
  | i :: is, listed, a, w =>
    (∃ o v, (∀ c a w, Q (.panic c) (a.put o.dst v) w → Q (.panic c) a w) ∧ (decide (i < m) && Region.free md ops listed i && (Region.ready md ops listed).contains i) = true ∧ ops[i]? = some o ∧ YieldsIf P ops S o v a ∧ S w ∧ wpOrd P md ops Q S m is (listed.setIfInBounds i true) (a.put o.dst v) w) ∨
    ((decide (i ≤ m) && (i != m || is.isEmpty) && Region.ready md ops listed == [i]) = true ∧ wpOp P ops Q i (fun a' w' => (i = m ∨ S w') ∧ wpOrd P md ops Q S m is (listed.setIfInBounds i true) a' w') a w)
theorem wpAnyG_ord (hs : Region.sinkB md ops m = true) (hc : Region.chainB md ops m = true) (hm : m < ops.size) (hsel : Region.noSelect ops = true) :
    ∀ (is : List Nat) (listed : Array Bool) (a : Act) (w : World), HeadInv md ops m listed → wpOrd P md ops Q S m is listed a w → wpAnyG P md ops Q S m is.length listed a w := by
  intro is
  induction is with
  | nil => intro listed a w _ h; exact h
  | cons i is ih =>
    intro listed a w inv h
    rcases h with ⟨o, v, hQ, hB, ho, hy, hS, h⟩ | ⟨hB, h⟩
    · simp only [Bool.and_eq_true, decide_eq_true_eq] at hB
      obtain ⟨⟨h1, h2⟩, h3⟩ := hB
      have hr : i ∈ Region.ready md ops listed := by simpa using h3
      exact wpAnyG_first hs hc hm h1 ho (Region.noSelect_spec hsel) hQ is.length listed a w inv (Region.free_spec ho h2) hr hy hS (ih _ _ _ (inv.set hr h1) h)
    · simp only [Bool.and_eq_true, decide_eq_true_eq, beq_iff_eq] at hB
      obtain ⟨⟨h1, h2⟩, h3⟩ := hB
      refine ⟨fun h0 => (by rw [h3] at h0; cases h0), fun j hj => ?_⟩
      rw [h3] at hj
      obtain rfl : j = i := by simpa using hj
      refine wpOp_mono (fun a' w' h' => ⟨h'.1, ?_⟩) h
      rcases Nat.lt_or_ge j m with hlt | hge
      · exact ih _ _ _ (inv.set (by rw [h3]; simp) hlt) h'.2
      · have hjm : j = m := by omega
        have hnil : is = [] := by
          simp [hjm] at h2
          exact h2
        subst hnil
        exact h'.2
/-- a step that only reads -/
theorem wpOrd_free {i : Nat} {is : List Nat} {listed : Array Bool} {a : Act} {w : World} {o : Oper} {v : Value} (ho0 : ops.toList[i]? = some o) (hB : (decide (i < m) && Region.free md ops listed i && (Region.ready md ops listed).contains i) = true)
    (hQ : ∀ c a w, Q (.panic c) (a.put o.dst v) w → Q (.panic c) a w) (hy : YieldsIf P ops S o v a) (hS : S w) (h : wpOrd P md ops Q S m is (listed.setIfInBounds i true) (a.put o.dst v) w) : wpOrd P md ops Q S m (i :: is) listed a w :=
  .inl ⟨o, v, hQ, hB, get_of_list ho0, hy, hS, h⟩
/-- a step for which all wait -/
theorem wpOrd_sole {i : Nat} {is : List Nat} {listed : Array Bool} {a : Act} {w : World} {o : Oper} (ho0 : ops.toList[i]? = some o) (hB : (decide (i ≤ m) && (i != m || is.isEmpty) && Region.ready md ops listed == [i]) = true) (hg : o.guard = none)
    (h : ∀ K : Act → World → Prop, (∀ a' w', (i = m ∨ S w') → wpOrd P md ops Q S m is (listed.setIfInBounds i true) a' w' → K a' w') → o.wp P a w K Q) : wpOrd P md ops Q S m (i :: is) listed a w := by
  have ho := get_of_list ho0
  refine .inr ⟨hB, ?_⟩
  unfold wpOp
  rw [ho]
  have hw : Region.wanted o (yielded ops a.tmps) = true := by simp [Region.wanted, hg]
  simp only [hw, if_true]
  exact .inl (h _ fun a' w' h1 h2 => ⟨h1, h2⟩)
theorem wp_region_ord {id : Nat} {a : Act} {w : World} (is : List Nat) (S : World → Prop) (m : Nat) (hm : P.follows .mixedOrders = true)
    (hB : (decide (m < ops.size) && decide (is.length = ops.size) && Region.noSelect ops && Region.sinkB .any ops m && Region.chainB .any ops m) = true)
    (h : wpOrd P .any ops Q S m is (Array.replicate ops.size false) a w.drew) : (Code.region id ops true).wp P Q a w := by
  simp only [Bool.and_eq_true, decide_eq_true_eq] at hB
  obtain ⟨⟨⟨⟨h1, h2⟩, h3⟩, h4⟩, h5⟩ := hB
  refine wp_region_any hm (wpAny_of_g (S := S) (m := m) _ _ _ _ ?_)
  have H := wpAnyG_ord (P := P) (Q := Q) (S := S) h4 h5 h1 h3 is (Array.replicate ops.size false) a w.drew ⟨by simp, fun j oj _ hl => (by rw [getD_replicate_false] at hl; cases hl), fun t _ ht => getD_in (by rw [Array.size_replicate]; exact ht) (getD_replicate_false _ _)⟩ h
  rw [h2] at H
  exact H
end
theorem still_tail {P : Program} {id : Nat} {Q : Exit → Act → World → Prop} {a : Act} {w : World} {l : List Oper} (n : Nat) (hm : P.follows .mixedOrders = true) (hB : Region.lexTailB .any l.toArray n = true)
    (h : wpStill P l.toArray w.drew (fun a' => wpList P l.toArray Q (l.drop n) a' w.drew) (l.take n) a) : (Code.region id l.toArray true).wp P Q a w := wp_region_still_tail n hm hB h
theorem still_all {P : Program} {id : Nat} {Q : Exit → Act → World → Prop} {a : Act} {w : World} {l : List Oper} (hm : P.follows .mixedOrders = true) (hB : Region.lexB .any l.toArray = true)
    (h : wpStill P l.toArray w.drew (fun a' => Q .normal a' w.drew) l a) : (Code.region id l.toArray true).wp P Q a w := wp_region_still_lit hm hB h


section
variable {P : Program} {ops : Array Oper} {Q : Exit → Act → World → Prop} {md : Region.Mode} {S : World → Prop}
def wpOrdH (P : Program) (md : Region.Mode) (ops : Array Oper) (Q : Exit → Act → World → Prop) (S : World → Prop) : List Nat → Array Bool → Act → World → Prop
  | [], listed, a, w => Region.ready md ops listed = [] ∧ Q .normal a w
  | i :: is, listed, a, w =>
    (∃ o v, (∀ c a w, Q (.panic c) (a.put o.dst v) w → Q (.panic c) a w) ∧ (Region.free md ops listed i && (Region.ready md ops listed).contains i) = true ∧ ops[i]? = some o ∧ YieldsIf P ops S o v a ∧ S w ∧ wpOrdH P md ops Q S is (listed.setIfInBounds i true) (a.put o.dst v) w) ∨
    ((Region.ready md ops listed == [i]) = true ∧ wpOp P ops Q i (fun a' w' => S w' ∧ wpOrdH P md ops Q S is (listed.setIfInBounds i true) a' w') a w)
theorem wpAnyH_ord (hsel : Region.noSelect ops = true) :
    ∀ (is : List Nat) (listed : Array Bool) (a : Act) (w : World), wpOrdH P md ops Q S is listed a w → wpAnyH P md ops Q S is.length listed a w := by
  intro is
  induction is with
  | nil => intro listed a w h; exact h
  | cons i is ih =>
    intro listed a w h
    rcases h with ⟨o, v, hQ, hB, ho, hy, hS, h⟩ | ⟨hB, h⟩
    · simp only [Bool.and_eq_true] at hB
      exact wpAnyH_take ho hsel hB.1 hB.2 hQ hy hS (ih _ _ _ h)
    · simp only [beq_iff_eq] at hB
      refine ⟨fun h0 => (by rw [hB] at h0; cases h0), fun j hj => ?_⟩
      rw [hB] at hj
      obtain rfl : j = i := by simpa using hj
      exact wpOp_mono (fun a' w' h' => ⟨h'.1, ih _ _ _ h'.2⟩) h
theorem ordH_free {i : Nat} {is : List Nat} {listed : Array Bool} {a : Act} {w : World} {o : Oper} {v : Value} (ho0 : ops.toList[i]? = some o) (hB : (Region.free md ops listed i && (Region.ready md ops listed).contains i) = true)
    (hQ : ∀ c a w, Q (.panic c) (a.put o.dst v) w → Q (.panic c) a w) (hy : YieldsIf P ops S o v a) (hS : S w) (h : wpOrdH P md ops Q S is (listed.setIfInBounds i true) (a.put o.dst v) w) : wpOrdH P md ops Q S (i :: is) listed a w :=
  .inl ⟨o, v, hQ, hB, get_of_list ho0, hy, hS, h⟩
theorem ordH_sole {i : Nat} {is : List Nat} {listed : Array Bool} {a : Act} {w : World} {o : Oper} (ho0 : ops.toList[i]? = some o) (hB : (Region.ready md ops listed == [i]) = true) (hw : Region.wanted o (yielded ops a.tmps) = true)
    (h : ∀ K : Act → World → Prop, (∀ a' w', S w' → wpOrdH P md ops Q S is (listed.setIfInBounds i true) a' w' → K a' w') → o.wp P a w K Q) : wpOrdH P md ops Q S (i :: is) listed a w := by
  have ho := get_of_list ho0
  refine .inr ⟨hB, ?_⟩
  unfold wpOp
  rw [ho]
  simp only [hw, if_true]
  exact .inl (h _ fun a' w' h1 h2 => ⟨h1, h2⟩)
theorem wp_region_ordH {id : Nat} {a : Act} {w : World} (is : List Nat) (S : World → Prop) (hm : P.follows .mixedOrders = true)
    (hB : (decide (is.length = ops.size) && Region.noSelect ops) = true)
    (h : wpOrdH P .any ops Q S is (Array.replicate ops.size false) a w.drew) : (Code.region id ops true).wp P Q a w := by
  simp only [Bool.and_eq_true, decide_eq_true_eq] at hB
  have H := wpAnyH_ord (P := P) (Q := Q) (S := S) hB.2 is (Array.replicate ops.size false) a w.drew h
  rw [hB.1] at H
  exact wp_region_held hm H
theorem anyH_start {id : Nat} {a : Act} {w : World} (n : Nat) (S : World → Prop) (hm : P.follows .mixedOrders = true) (hn : ops.size = n)
    (h : wpAnyH P .any ops Q S n (Array.replicate n false) a w.drew) : (Code.region id ops true).wp P Q a w := by
  subst hn
  exact wp_region_held hm h
theorem anyH_free {i n : Nat} {listed : Array Bool} {a : Act} {w : World} {o : Oper} {v : Value} (ho0 : ops.toList[i]? = some o) (hB : (Region.noSelect ops && Region.free md ops listed i && (Region.ready md ops listed).contains i) = true)
    (hQ : ∀ c a w, Q (.panic c) (a.put o.dst v) w → Q (.panic c) a w) (hy : YieldsIf P ops S o v a) (hS : S w) (h : wpAnyH P md ops Q S n (listed.setIfInBounds i true) (a.put o.dst v) w) : wpAnyH P md ops Q S (n + 1) listed a w := by
  have ho := get_of_list ho0
  simp only [Bool.and_eq_true] at hB
  exact wpAnyH_take ho hB.1.1 hB.1.2 hB.2 hQ hy hS h
theorem anyH_sole {i n : Nat} {listed : Array Bool} {a : Act} {w : World} {o : Oper} (ho0 : ops.toList[i]? = some o) (hB : (Region.ready md ops listed == [i]) = true) (hw : Region.wanted o (yielded ops a.tmps) = true)
    (h : ∀ K : Act → World → Prop, (∀ a' w', S w' → wpAnyH P md ops Q S n (listed.setIfInBounds i true) a' w' → K a' w') → o.wp P a w K Q) : wpAnyH P md ops Q S (n + 1) listed a w := by
  have ho := get_of_list ho0
  simp only [beq_iff_eq] at hB
  refine ⟨fun h0 => (by rw [hB] at h0; cases h0), fun j hj => ?_⟩
  rw [hB] at hj
  obtain rfl : j = i := by simpa using hj
  unfold wpOp
  rw [ho]
  simp only [hw, if_true]
  exact .inl (h _ fun a' w' h1 h2 => ⟨h1, h2⟩)
theorem anyH_two {i j n : Nat} {listed : Array Bool} {a : Act} {w : World} {o p : Oper} (ho0 : ops.toList[i]? = some o) (hp0 : ops.toList[j]? = some p) (hB : (Region.ready md ops listed == [i, j]) = true) (hw : Region.wanted o (yielded ops a.tmps) = true) (hv : Region.wanted p (yielded ops a.tmps) = true)
    (h : ∀ K : Act → World → Prop, (∀ a' w', S w' → wpAnyH P md ops Q S n (listed.setIfInBounds i true) a' w' → K a' w') → o.wp P a w K Q)
    (h' : ∀ K : Act → World → Prop, (∀ a' w', S w' → wpAnyH P md ops Q S n (listed.setIfInBounds j true) a' w' → K a' w') → p.wp P a w K Q) : wpAnyH P md ops Q S (n + 1) listed a w := by
  have ho := get_of_list ho0
  have hp := get_of_list hp0
  simp only [beq_iff_eq] at hB
  refine ⟨fun h0 => (by rw [hB] at h0; cases h0), fun k hk => ?_⟩
  rw [hB] at hk
  have hk2 : k = i ∨ k = j := by simpa using hk
  rcases hk2 with rfl | rfl
  · unfold wpOp
    rw [ho]
    simp only [hw, if_true]
    exact .inl (h _ fun a' w' h1 h2 => ⟨h1, h2⟩)
  · unfold wpOp
    rw [hp]
    simp only [hv, if_true]
    exact .inl (h' _ fun a' w' h1 h2 => ⟨h1, h2⟩)
theorem any_gen {n : Nat} {listed : Array Bool} {a : Act} {w : World} (I : World → Prop) (hI : I w) (h : ∀ w', I w' → wpAnyH P md ops Q S n listed a w') : wpAnyH P md ops Q S n listed a w := h w hI
theorem anyH_done {n : Nat} {listed : Array Bool} {a : Act} {w : World} (hB : (Region.ready md ops listed).isEmpty = true) (h : Q .normal a w) : wpAnyH P md ops Q S n listed a w :=
  wpAnyH_done (List.isEmpty_iff.1 hB) h n
end
end Go.Proofs.Ytfaafndaelmbfaa
