/- A region that draws its order, whose last operation waits for all the others: walked in one order, each step by hand. -/
import Derived.StillTail
import Derived.OrdersHeld
import Derived.RegionTactic
namespace Go.Proofs.Ythligipgmicgfaa

section
variable {P : Program} {ops : Array Oper} {Q : Exit → Act → World → Prop} {md : Region.Mode} {S : World → Prop} {m : Nat}
/-- whatever order is picked; S holds behind each operation but the last -/
def wpAnyG (P : Program) (md : Region.Mode) (ops : Array Oper) (Q : Exit → Act → World → Prop) (S : World → Prop) (m : Nat) : Nat → Array Bool → Act → World → Prop
  | 0, listed, a, w => Region.ready md ops listed = [] ∧ Q .normal a w
  | fuel + 1, listed, a, w =>
    (Region.ready md ops listed = [] → Q .normal a w) ∧
    ∀ i ∈ Region.ready md ops listed, wpOp P ops Q i (fun a' w' => (i = m ∨ S w') ∧ wpAnyG P md ops Q S m fuel (listed.setIfInBounds i true) a' w') a w
theorem wpAny_of_g : ∀ (fuel : Nat) (listed : Array Bool) (a : Act) (w : World), wpAnyG P md ops Q S m fuel listed a w → wpAny P md ops Q fuel listed a w
  | 0, _, _, _, h => h
  | fuel + 1, _, _, _, h => ⟨h.1, fun i hi => wpOp_mono (fun a' w' h' => wpAny_of_g fuel _ a' w' h'.2) (h.2 i hi)⟩
theorem wpAnyG_first (hs : Region.sinkB md ops m = true) (hc : Region.chainB md ops m = true) (hm : m < ops.size) {i : Nat} {oi : Oper} {v : Value} (him : i < m) (hi : ops[i]? = some oi) (hsel : ∀ (j : Nat) (o : Oper) cs b, ops[j]? = some o → o.op ≠ .select cs b)
    (hQ : ∀ c a w, Q (.panic c) (a.put oi.dst v) w → Q (.panic c) a w) :
    ∀ (fuel : Nat) (listed : Array Bool) (a : Act) (w : World), HeadInv md ops m listed →
      (∀ j oj, ops[j]? = some oj → j ≠ i → listed.getD j true = false → (∀ e ∈ oj.after, Region.binds md e = true → e.on ≠ i) → oi.apart ops oj = true) →
      i ∈ Region.ready md ops listed → YieldsIf P ops S oi v a → S w →
      wpAnyG P md ops Q S m fuel (listed.setIfInBounds i true) (a.put oi.dst v) w → wpAnyG P md ops Q S m (fuel + 1) listed a w := by
  intro fuel
  induction fuel with
  | zero =>
    intro listed a w _ _ hr hy hS H
    refine ⟨fun h => (by rw [h] at hr; cases hr), fun j hj => ?_⟩
    by_cases hji : j = i
    · subst hji; exact hy.wpOp hi hS ⟨.inr hS, H⟩
    · have := ready_mono hj hji
      rw [H.1] at this
      cases this
  | succ fuel ih =>
    intro listed a w inv hfree hr hy hS H
    refine ⟨fun h => (by rw [h] at hr; cases hr), fun j hj => ?_⟩
    by_cases hji : j = i
    · subst hji; exact hy.wpOp hi hS ⟨.inr hS, H⟩
    · have h1 := H.2 j (ready_mono hj hji)
      have hun := (mem_ready.1 hr).1
      obtain ⟨hjun, oj, hoj, hall⟩ := mem_ready.1 hj
      have hjm : j < m := by
        rcases Nat.lt_or_ge j m with h | h
        · exact h
        · exact absurd hj (tail_waits hs hc hm inv _ i rfl him hun j h)
      have hnot : ∀ e ∈ oj.after, Region.binds md e = true → e.on ≠ i := fun e he hb heq => by
        have h1 := hall e he hb
        rw [heq, getD_both hun] at h1
        cases h1
      have h2 := wpOp_putIf hoj (hfree j oj hoj hji hjun hnot) (fun cs b => hsel i oi cs b hi) (fun cs b => hsel j oj cs b hoj) hQ hy h1
      have hfree' : ∀ k ok, ops[k]? = some ok → k ≠ i → (listed.setIfInBounds j true).getD k true = false →
          (∀ e ∈ ok.after, Region.binds md e = true → e.on ≠ i) → oi.apart ops ok = true := fun k ok hk hki hun hno => by
        refine hfree k ok hk hki ?_ hno
        by_cases hjk : j = k
        · subst hjk; exact hjun
        · rw [getD_set_ne true hjk] at hun; exact hun
      refine wpOp_mono (fun a' w' h3 => ⟨h3.2.1, ?_⟩) h2
      have hS' : S w' := h3.2.1.resolve_left (by omega)
      refine ih (listed.setIfInBounds j true) a' w' (inv.set hj hjm) hfree' (ready_mono hr (Ne.symm hji)) h3.1 hS' ?_
      rw [Array.setIfInBounds_comm _ _ hji]
      exact h3.2.2

/-- one order, step by step -/
def wpOrd (P : Program) (md : Region.Mode) (ops : Array Oper) (Q : Exit → Act → World → Prop) (S : World → Prop) (m : Nat) : List Nat → Array Bool → Act → World → Prop
  | [], listed, a, w => Region.ready md ops listed = [] ∧ Q .normal a w
  | i :: is, listed, a, w =>
    (∃ o v, (∀ c a w, Q (.panic c) (a.put o.dst v) w → Q (.panic c) a w) ∧ (decide (i < m) && Region.free md ops listed i && (Region.ready md ops listed).contains i) = true ∧ ops[i]? = some o ∧ YieldsIf P ops S o v a ∧ S w ∧ wpOrd P md ops Q S m is (listed.setIfInBounds i true) (a.put o.dst v) w) ∨
    ((decide (i ≤ m) && (i != m || is.isEmpty) && Region.ready md ops listed == [i]) = true ∧ wpOp P ops Q i (fun a' w' => (i = m ∨ S w') ∧ wpOrd P md ops Q S m is (listed.setIfInBounds i true) a' w') a w)
theorem wpAnyG_ord (hs : Region.sinkB md ops m = true) (hc : Region.chainB md ops m = true) (hm : m < ops.size) (hsel : Region.noSelect ops = true) :
    ∀ (is : List Nat) (listed : Array Bool) (a : Act) (w : World), HeadInv md ops m listed → wpOrd P md ops Q S m is listed a w → wpAnyG P md ops Q S m is.length listed a w := by
  intro is
  induction is with
  | nil => intro listed a w _ h; exact h
  | cons i is ih =>
    intro listed a w inv h
    rcases h with ⟨o, v, hQ, hB, ho, hy, hS, h⟩ | ⟨hB, h⟩
    · simp only [Bool.and_eq_true, decide_eq_true_eq] at hB
      obtain ⟨⟨h1, h2⟩, h3⟩ := hB
      have hr : i ∈ Region.ready md ops listed := by simpa using h3
      exact wpAnyG_first hs hc hm h1 ho (Region.noSelect_spec hsel) hQ is.length listed a w inv (Region.free_spec ho h2) hr hy hS (ih _ _ _ (inv.set hr h1) h)
    · simp only [Bool.and_eq_true, decide_eq_true_eq, beq_iff_eq] at hB
      obtain ⟨⟨h1, h2⟩, h3⟩ := hB
      refine ⟨fun h0 => (by rw [h3] at h0; cases h0), fun j hj => ?_⟩
      rw [h3] at hj
      obtain rfl : j = i := by simpa using hj
      refine wpOp_mono (fun a' w' h' => ⟨h'.1, ?_⟩) h
      rcases Nat.lt_or_ge j m with hlt | hge
      · exact ih _ _ _ (inv.set (by rw [h3]; simp) hlt) h'.2
      · have hjm : j = m := by omega
        have hnil : is = [] := by
          simp [hjm] at h2
          exact h2
        subst hnil
        exact h'.2
/-- a step that only reads -/
theorem wpOrd_free {i : Nat} {is : List Nat} {listed : Array Bool} {a : Act} {w : World} {o : Oper} {v : Value} (ho : ops[i]? = some o) (hB : (decide (i < m) && Region.free md ops listed i && (Region.ready md ops listed).contains i) = true)
    (hQ : ∀ c a w, Q (.panic c) (a.put o.dst v) w → Q (.panic c) a w) (hy : YieldsIf P ops S o v a) (hS : S w) (h : wpOrd P md ops Q S m is (listed.setIfInBounds i true) (a.put o.dst v) w) : wpOrd P md ops Q S m (i :: is) listed a w :=
  .inl ⟨o, v, hQ, hB, ho, hy, hS, h⟩
/-- a step for which all wait -/
theorem wpOrd_sole {i : Nat} {is : List Nat} {listed : Array Bool} {a : Act} {w : World} {o : Oper} (ho : ops[i]? = some o) (hB : (decide (i ≤ m) && (i != m || is.isEmpty) && Region.ready md ops listed == [i]) = true) (hg : o.guard = none)
    (h : ∀ K : Act → World → Prop, (∀ a' w', (i = m ∨ S w') → wpOrd P md ops Q S m is (listed.setIfInBounds i true) a' w' → K a' w') → o.wp P a w K Q) : wpOrd P md ops Q S m (i :: is) listed a w := by
  refine .inr ⟨hB, ?_⟩
  unfold wpOp
  rw [ho]
  have hw : Region.wanted o (yielded ops a.tmps) = true := by simp [Region.wanted, hg]
  simp only [hw, if_true]
  exact .inl (h _ fun a' w' h1 h2 => ⟨h1, h2⟩)
theorem wp_region_ord {id : Nat} {a : Act} {w : World} (is : List Nat) (S : World → Prop) (m : Nat) (hm : P.follows .mixedOrders = true)
    (hB : (decide (m < ops.size) && decide (is.length = ops.size) && Region.noSelect ops && Region.sinkB .any ops m && Region.chainB .any ops m) = true)
    (h : wpOrd P .any ops Q S m is (Array.replicate ops.size false) a w.drew) : (Code.region id ops true).wp P Q a w := by
  simp only [Bool.and_eq_true, decide_eq_true_eq] at hB
  obtain ⟨⟨⟨⟨h1, h2⟩, h3⟩, h4⟩, h5⟩ := hB
  refine wp_region_any hm (wpAny_of_g (S := S) (m := m) _ _ _ _ ?_)
  have H := wpAnyG_ord (P := P) (Q := Q) (S := S) h4 h5 h1 h3 is (Array.replicate ops.size false) a w.drew ⟨by simp, fun j oj _ hl => (by rw [getD_replicate_false] at hl; cases hl), fun t _ ht => getD_in (by rw [Array.size_replicate]; exact ht) (getD_replicate_false _ _)⟩ h
  rw [h2] at H
  exact H
end
end Go.Proofs.Ythligipgmicgfaa
