/- OutboxSends: the plain law -/
import Derived.Test.YtfaafndaelmbfaaOGrt
namespace Go.Proofs.Ytfaafndaelmbfaa
open Go.RowKit
attribute [local go_sem] Oper.semAt_some

def keyM (r i : Int) (z : Ms) : Bool := decide (z.rule = r) && decide (z.at_ = i)
/-- how often a message stands among some -/
def cnt (ms : List Ms) (r i : Int) : Nat := (ms.filter (keyM r i)).length
def step1 (t : Int) (x : Ox) : Ox := if x.nx ≤ t then pmX t x else x
theorem isM_step (r i t : Int) (x : Ox) : isM r i (step1 t x) = isM r i x := by
  unfold step1 isM pmX
  split <;> rfl
theorem filter_send {xs : List Ox} {r i t : Int} (h : minB t = true) : (sendL xs t).filter (isM r i) = (xs.filter (isM r i)).map (step1 t) := by
  unfold sendL pumpL
  rw [if_pos h]
  show (xs.map (step1 t)).filter (isM r i) = _
  rw [List.filter_map]
  congr 1
  apply List.filter_congr
  intro x _
  exact isM_step r i t x
theorem cnt_send {xs : List Ox} {r i t : Int} (h : minB t = true) : cnt (sendO xs t) r i = ((xs.filter (isM r i)).filter (fun x => decide (x.nx ≤ t))).length := by
  unfold cnt sendO pumpO
  rw [if_pos h, List.filter_map, List.length_map, List.filter_filter, List.filter_filter]
  congr 1
  apply List.filter_congr
  intro x _
  show (keyM r i x.m && _) = (_ && isM r i x)
  rw [Bool.and_comm]
  rfl
theorem send_len {xs : List Ox} {t : Int} (h : minB t = true) : (sendL xs t).length = xs.length := by
  unfold sendL pumpL
  rw [if_pos h, List.length_map]
theorem send_mem {xs : List Ox} {t : Int} (h : minB t = true) {y : Ox} (hy : y ∈ sendL xs t) : ∃ x ∈ xs, y = step1 t x := by
  unfold sendL pumpL at hy
  rw [if_pos h] at hy
  obtain ⟨x, hx, e⟩ := List.mem_map.1 hy
  exact ⟨x, hx, e.symm⟩
theorem mor_pos (t : Int) : 1 ≤ mor t ∧ mor t ≤ 16 := by
  unfold mor
  repeat' split
  all_goals omega
/-- what stands of the list, but for the one: few, lists small, how often each was sent -/
structure SG (n : Nat) (xs : List Ox) : Prop where
  len : xs.length ≤ 6
  few : FewO xs
  tr : ∀ x ∈ xs, 0 ≤ x.tr ∧ x.tr ≤ n
theorem SG.ok {n : Nat} {xs : List Ox} (h : SG n xs) (hn : n ≤ 10000) : TrOk xs := fun x hx => ⟨(h.tr x hx).1, by have := (h.tr x hx).2; omega⟩
theorem SG.mono {n m : Nat} {xs : List Ox} (h : SG n xs) (hn : n ≤ m) : SG m xs := ⟨h.len, h.few, fun x hx => ⟨(h.tr x hx).1, by have := (h.tr x hx).2; omega⟩⟩
theorem SG.send {n : Nat} {xs : List Ox} {t : Int} (h : SG n xs) (ht : minB t = true) : SG (n + 1) (sendL xs t) := by
  refine ⟨by rw [send_len ht]; exact h.len, fun y hy => ?_, fun y hy => ?_⟩
  · obtain ⟨x, hx, rfl⟩ := send_mem ht hy
    have := h.few x hx
    unfold step1 pmX
    split <;> exact this
  · obtain ⟨x, hx, rfl⟩ := send_mem ht hy
    have := h.tr x hx
    unfold step1 pmX
    split
    · constructor <;> simp only <;> omega
    · constructor <;> omega
theorem SG.add {n : Nat} {xs : List Ox} {m' : Ms} {t : Int} (h : SG n xs) (hf : Few m') : SG n (addL xs m' t) := by
  unfold addL
  split
  · rename_i h1
    simp only [Bool.and_eq_true, decide_eq_true_eq] at h1
    refine ⟨by rw [List.length_append]; simp; omega, fun y hy => ?_, fun y hy => ?_⟩
    · rcases List.mem_append.1 hy with hy | hy
      · exact h.few y hy
      · obtain rfl := List.mem_singleton.1 hy
        exact hf
    · rcases List.mem_append.1 hy with hy | hy
      · exact h.tr y hy
      · obtain rfl := List.mem_singleton.1 hy
        constructor <;> simp
  · exact h
theorem SG.ack {n : Nat} {xs : List Ox} {r i : Int} (h : SG n xs) : SG n (ackL xs r i) :=
  ⟨Nat.le_trans (List.length_eraseP_le) h.len, fun y hy => h.few y (List.mem_of_mem_eraseP hy), fun y hy => h.tr y (List.mem_of_mem_eraseP hy)⟩
theorem add_other {xs : List Ox} {m' : Ms} {r i t : Int} (h : m'.rule ≠ r ∨ m'.at_ ≠ i) : (addL xs m' t).filter (isM r i) = xs.filter (isM r i) := by
  unfold addL
  split
  · rw [List.filter_append]
    have : isM r i ⟨m', 0, t⟩ = false := by
      unfold isM
      rcases h with h | h
      · simp [h]
      · simp [h]
    simp [this]
  · rfl
theorem filter_eraseP_other {α : Type} {p q : α → Bool} (h : ∀ x, q x = true → p x = false) : ∀ xs : List α, (xs.eraseP q).filter p = xs.filter p
  | [] => rfl
  | x :: xs => by
    by_cases hq : q x = true
    · rw [List.eraseP_cons_of_pos hq, List.filter_cons_of_neg (by rw [h x hq]; simp)]
    · rw [List.eraseP_cons_of_neg hq]
      by_cases hp : p x = true
      · rw [List.filter_cons_of_pos hp, List.filter_cons_of_pos hp, filter_eraseP_other h xs]
      · rw [List.filter_cons_of_neg hp, List.filter_cons_of_neg hp, filter_eraseP_other h xs]
theorem filter_eraseP_self {α : Type} {p : α → Bool} : ∀ xs : List α, (xs.eraseP p).filter p = (xs.filter p).tail
  | [] => rfl
  | x :: xs => by
    by_cases hp : p x = true
    · rw [List.eraseP_cons_of_pos hp, List.filter_cons_of_pos hp, List.tail_cons]
    · rw [List.eraseP_cons_of_neg hp, List.filter_cons_of_neg hp, List.filter_cons_of_neg hp, filter_eraseP_self xs]
theorem ack_other {xs : List Ox} {r i r' i' : Int} (h : r' ≠ r ∨ i' ≠ i) : (ackL xs r' i').filter (isM r i) = xs.filter (isM r i) := by
  refine filter_eraseP_other (fun x hx => ?_) xs
  unfold isM at hx ⊢
  simp only [Bool.and_eq_true, decide_eq_true_eq] at hx
  rcases h with h | h
  · simp [hx.1, h]
  · simp [hx.2, h]
theorem ack_self {xs : List Ox} {r i : Int} : (ackL xs r i).filter (isM r i) = (xs.filter (isM r i)).tail := filter_eraseP_self xs
theorem has_one {xs : List Ox} {r i : Int} {y : Ox} (h : xs.filter (isM r i) = [y]) : hasR xs r i = true := by
  have : y ∈ xs.filter (isM r i) := by rw [h]; simp
  obtain ⟨h1, h2⟩ := List.mem_filter.1 this
  exact List.any_eq_true.2 ⟨y, h1, h2⟩
/-- what stands of the one at the head of the i-th minute; it was sent last at 'last' -/
structure SI (r k : Int) (a i : Nat) (last : Int) (xs : List Ox) : Prop where
  g : SG (2 * i) xs
  one : ∃ y, xs.filter (isM r k) = [y] ∧ last < y.nx ∧ y.nx ≤ last + 16 ∧ (i = 0 → y.nx = a)
  l0 : (a : Int) - 1 ≤ last
  l1 : last < (a : Int) + i
section
variable {r k : Int} {a i : Nat} {last : Int} {xs : List Ox}
theorem SI.add {m' : Ms} {t : Int} (h : SI r k a i last xs) (hf : Few m') (hk : m'.rule ≠ r ∨ m'.at_ ≠ k) : SI r k a i last (addL xs m' t) :=
  ⟨h.g.add hf, by rw [add_other hk]; exact h.one, h.l0, h.l1⟩
theorem SI.ack {r' i' : Int} (h : SI r k a i last xs) (hk : r' ≠ r ∨ i' ≠ k) : SI r k a i last (ackL xs r' i') :=
  ⟨h.g.ack, by rw [ack_other hk]; exact h.one, h.l0, h.l1⟩
/-- pumped twice at its minute -/
theorem SI.pump (h : SI r k a i last xs) (ha : a ≤ 1000000) (hi : i ≤ 200) : ∃ n : Nat, cnt (sendO xs ((a : Int) + i)) r k = n ∧ n ≤ 1 ∧ cnt (sendO (sendL xs ((a : Int) + i)) ((a : Int) + i)) r k = 0 ∧
    (n = 0 → (a : Int) + i - last < 16) ∧ (i = 0 → n = 1) ∧ SI r k a (i + 1) (if n = 0 then last else (a : Int) + i) (sendL (sendL xs ((a : Int) + i)) ((a : Int) + i)) := by
  have hm : minB ((a : Int) + i) = true := by unfold minB; simp; omega
  obtain ⟨y, hy, h1, h2, h3⟩ := h.one
  have e0 := cnt_send (xs := xs) (r := r) (i := k) hm
  have e1 := cnt_send (xs := sendL xs ((a : Int) + i)) (r := r) (i := k) hm
  have f1 := filter_send (xs := xs) (r := r) (i := k) hm
  have f2 := filter_send (xs := sendL xs ((a : Int) + i)) (r := r) (i := k) hm
  rw [hy] at f1 e0
  simp only [List.map_cons, List.map_nil] at f1
  rw [f1] at f2 e1
  simp only [List.map_cons, List.map_nil] at f2
  have l0 := h.l0
  have l1 := h.l1
  have hg : SG (2 * (i + 1)) (sendL (sendL xs ((a : Int) + i)) ((a : Int) + i)) := (h.g.send hm).send hm
  by_cases hd : y.nx ≤ (a : Int) + i
  · have s1 : step1 ((a : Int) + i) y = pmX ((a : Int) + i) y := by unfold step1; rw [if_pos hd]
    have hmo := mor_pos y.tr
    have hnx : (pmX ((a : Int) + i) y).nx = (a : Int) + i + mor y.tr := rfl
    have s2 : step1 ((a : Int) + i) (pmX ((a : Int) + i) y) = pmX ((a : Int) + i) y := by unfold step1; rw [if_neg (by rw [hnx]; omega)]
    rw [s1] at f2 e1
    rw [s2] at f2
    refine ⟨1, by rw [e0]; simp [hd], by omega, ?_, by omega, fun _ => rfl, ⟨hg, ⟨_, f2, ?_, ?_, by omega⟩, ?_, ?_⟩⟩
    · rw [e1]
      have : ¬ (pmX ((a : Int) + i) y).nx ≤ (a : Int) + i := by rw [hnx]; omega
      simp [this]
    · rw [if_neg (by omega), hnx]; omega
    · rw [if_neg (by omega), hnx]; omega
    · rw [if_neg (by omega)]; omega
    · rw [if_neg (by omega)]; omega
  · have s1 : step1 ((a : Int) + i) y = y := by unfold step1; rw [if_neg hd]
    rw [s1] at f2 e1
    rw [s1] at f2
    refine ⟨0, by rw [e0]; simp [hd], by omega, by rw [e1]; simp [hd], fun _ => by omega, fun h0 => ?_, ⟨hg, ⟨y, f2, ?_, ?_, by omega⟩, ?_, ?_⟩⟩
    · have := h3 h0
      subst h0
      exact absurd (by omega) hd
    · rw [if_pos rfl]; exact h1
    · rw [if_pos rfl]; exact h2
    · rw [if_pos rfl]; exact l0
    · rw [if_pos rfl]; omega
/-- acknowledged it is sent no more -/
theorem SI.gone (h : SI r k a i last xs) {t : Int} (ht : minB t = true) : hasR xs r k = true ∧ cnt (sendO (ackL xs r k) t) r k = 0 ∧ SG (2 * i) (ackL xs r k) := by
  obtain ⟨y, hy, _⟩ := h.one
  refine ⟨has_one hy, ?_, h.g.ack⟩
  rw [cnt_send ht, ack_self, hy]
  rfl
end
theorem si_start {m : Ms} {a : Nat} (hf : Few m) : SI m.rule m.at_ a 0 ((a : Int) - 1) [⟨m, 0, a⟩] := by
  refine ⟨⟨by simp, fun x hx => ?_, fun x hx => ?_⟩, ⟨⟨m, 0, a⟩, by simp [isM], by simp only; omega, by simp only; omega, fun _ => rfl⟩, by omega, by omega⟩
  · obtain rfl := List.mem_singleton.1 hx
    exact hf
  · obtain rfl := List.mem_singleton.1 hx
    constructor <;> simp
end Go.Proofs.Ytfaafndaelmbfaa
