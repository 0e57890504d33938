/- OutboxPlays: the plain laws. -/
import Derived.Test.YtfaafndaelmbfaaOSiP
namespace Go.Proofs.Ytfaafndaelmbfaa
open Go.RowKit

def keyX (x : Ox) : Int × Int := (x.m.rule, x.m.at_)
/-- no two of one rule and instant -/
def Uniq (xs : List Ox) : Prop := (xs.map keyX).Nodup
theorem isM_key {r i : Int} {x : Ox} : isM r i x = true ↔ keyX x = (r, i) := by
  unfold isM keyX
  simp
theorem has_key {xs : List Ox} {r i : Int} : hasR xs r i = true ↔ (r, i) ∈ xs.map keyX := by
  unfold hasR
  rw [List.any_eq_true, List.mem_map]
  constructor
  · rintro ⟨x, hx, h⟩
    exact ⟨x, hx, isM_key.1 h⟩
  · rintro ⟨x, hx, h⟩
    exact ⟨x, hx, isM_key.2 h⟩
/-- the document's Ack -/
def rackL (xs : List Ox) (r i : Int) : List Ox := xs.filter fun x => !isM r i x
theorem rack_no {xs : List Ox} {r i : Int} (h : hasR xs r i = false) : rackL xs r i = xs := by
  unfold rackL
  rw [List.filter_eq_self]
  intro x hx
  cases hq : isM r i x with
  | false => rfl
  | true =>
    unfold hasR at h
    rw [List.any_eq_false] at h
    exact absurd hq (h x hx)
theorem rack_eq {r i : Int} : ∀ {xs : List Ox}, Uniq xs → rackL xs r i = ackL xs r i
  | [], _ => rfl
  | x :: xs, h => by
    unfold Uniq at h
    rw [List.map_cons, List.nodup_cons] at h
    unfold rackL ackL
    cases hq : isM r i x with
    | true =>
      rw [List.eraseP_cons_of_pos hq, List.filter_cons_of_neg (by simp [hq])]
      have hn : hasR xs r i = false := by
        cases hh : hasR xs r i with
        | false => rfl
        | true => exact absurd (by have h2 := has_key.1 hh; rw [← isM_key.1 hq] at h2; exact h2) h.1
      exact rack_no hn
    | false =>
      rw [List.eraseP_cons_of_neg (by simp [hq]), List.filter_cons_of_pos (by simp [hq])]
      congr 1
      exact rack_eq h.2
theorem ack_len {xs : List Ox} {r i : Int} : hasR xs r i = decide ((ackL xs r i).length < xs.length) := by
  cases hh : hasR xs r i with
  | true =>
    unfold hasR at hh
    obtain ⟨x, hx, h⟩ := List.any_eq_true.1 hh
    have := List.length_eraseP_of_mem hx h
    have hl := List.length_pos_of_mem hx
    unfold ackL
    symm
    rw [decide_eq_true_eq]
    omega
  | false =>
    have : ackL xs r i = xs := by
      unfold ackL
      refine List.eraseP_of_forall_not (fun x hx => ?_)
      unfold hasR at hh
      rw [List.any_eq_false] at hh
      exact hh x hx
    rw [this]
    simp
theorem Uniq.ack {xs : List Ox} {r i : Int} (h : Uniq xs) : Uniq (ackL xs r i) := List.Nodup.sublist (List.Sublist.map _ (List.eraseP_sublist)) h
theorem Uniq.snoc {xs : List Ox} {x : Ox} (h : Uniq xs) (hn : hasR xs x.m.rule x.m.at_ = false) : Uniq (xs ++ [x]) := by
  unfold Uniq
  rw [List.map_append, List.nodup_append]
  refine ⟨h, by simp, fun a ha b hb e => ?_⟩
  obtain rfl := List.mem_singleton.1 hb
  have : hasR xs x.m.rule x.m.at_ = true := has_key.2 (by rw [e] at ha; exact ha)
  rw [hn] at this
  cases this
theorem key_step (t : Int) (x : Ox) : keyX (step1 t x) = keyX x := by
  unfold step1 pmX keyX
  split <;> rfl
theorem sendL_eq {xs : List Ox} {t : Int} : sendL xs t = if minB t then xs.map (step1 t) else xs := rfl
theorem Uniq.send {xs : List Ox} {t : Int} (h : Uniq xs) : Uniq (sendL xs t) := by
  rw [sendL_eq]
  split
  · unfold Uniq
    rw [List.map_map, show keyX ∘ step1 t = keyX from funext (key_step t)]
    exact h
  · exact h
/-- may it be owed first? -/
def okO (pre : List Ox) (x : Ox) : Bool := minB x.tr && minB x.nx && !hasR pre x.m.rule x.m.at_
def GoodO (xs : List Ox) : Prop := xs.length ≤ 6 ∧ ∀ (k : Nat) (x : Ox), xs[k]? = some x → okO (xs.take k) x = true
theorem GoodO.uniq {xs : List Ox} (h : GoodO xs) : Uniq xs := by
  have : ∀ k, k ≤ xs.length → Uniq (xs.take k) := by
    intro k
    induction k with
    | zero => exact fun _ => by unfold Uniq; simp
    | succ k ih =>
      intro hk
      have hx : xs[k]? = some xs[k] := List.getElem?_eq_getElem hk
      rw [take_snoc' hx]
      have ho := h.2 k _ hx
      unfold okO at ho
      simp only [Bool.and_eq_true, Bool.not_eq_true'] at ho
      exact (ih (by omega)).snoc ho.2
  have h2 := this xs.length (Nat.le_refl _)
  rwa [List.take_length] at h2
/-- what stands of the list -/
structure PG (n : Nat) (xs : List Ox) : Prop where
  len : xs.length ≤ 6
  few : FewO xs
  tr : ∀ x ∈ xs, 0 ≤ x.tr ∧ x.tr ≤ 1099511627776 + n
  uq : Uniq xs
theorem PG.nil : PG 0 [] := ⟨by simp, (fun x hx => by cases hx), (fun x hx => by cases hx), (by unfold Uniq; simp)⟩
theorem GoodO.pg {xs : List Ox} (h : GoodO xs) (hf : FewO xs) : PG 0 xs := by
  refine ⟨h.1, hf, fun x hx => ?_, h.uniq⟩
  obtain ⟨k, hk⟩ := List.getElem?_of_mem hx
  have ho := h.2 k x hk
  unfold okO minB at ho
  simp only [Bool.and_eq_true, decide_eq_true_eq] at ho
  omega
section
variable {n m : Nat} {xs : List Ox} {t r i : Int}
theorem PG.mono (h : PG n xs) (hn : n ≤ m) : PG m xs := ⟨h.len, h.few, fun x hx => by have := h.tr x hx; omega, h.uq⟩
theorem PG.ok (h : PG n xs) (hn : n ≤ 10000) : TrOk xs := fun x hx => by have := h.tr x hx; omega
theorem PG.send (h : PG n xs) : PG (n + 1) (sendL xs t) := by
  refine ⟨?_, ?_, ?_, h.uq.send⟩
  · rw [sendL_eq]
    split
    · rw [List.length_map]
      exact h.len
    · exact h.len
  · rw [sendL_eq]
    split
    · intro y hy
      obtain ⟨x, hx, rfl⟩ := List.mem_map.1 hy
      have := h.few x hx
      unfold step1 pmX
      split <;> exact this
    · exact h.few
  · rw [sendL_eq]
    split
    · intro y hy
      obtain ⟨x, hx, rfl⟩ := List.mem_map.1 hy
      have := h.tr x hx
      unfold step1 pmX
      split
      · constructor <;> simp only <;> omega
      · constructor <;> omega
    · intro x hx
      have := h.tr x hx
      omega
theorem PG.add {m' : Ms} (h : PG n xs) (hf : Few m') : PG n (addL xs m' t) := by
  unfold addL
  split
  · rename_i h1
    simp only [Bool.and_eq_true, Bool.not_eq_true', decide_eq_true_eq] at h1
    refine ⟨by rw [List.length_append]; simp; omega, fun y hy => ?_, fun y hy => ?_, h.uq.snoc h1.1.2⟩
    · rcases List.mem_append.1 hy with hy | hy
      · exact h.few y hy
      · obtain rfl := List.mem_singleton.1 hy
        exact hf
    · rcases List.mem_append.1 hy with hy | hy
      · exact h.tr y hy
      · obtain rfl := List.mem_singleton.1 hy
        constructor <;> simp only <;> omega
  · exact h
theorem PG.ack (h : PG n xs) : PG n (ackL xs r i) :=
  ⟨Nat.le_trans (List.length_eraseP_le) h.len, fun y hy => h.few y (List.mem_of_mem_eraseP hy), fun y hy => h.tr y (List.mem_of_mem_eraseP hy), h.uq.ack⟩
end
end Go.Proofs.Ytfaafndaelmbfaa
