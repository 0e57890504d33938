/- The bound on the turns -/
import Derived.Test.YthligipgmicgfaaDrrA
namespace Go.Proofs.Ythligipgmicgfaa
open Go.RowKit

/-- what the items cost that must go, till no more than m wait -/
def must (m : Nat) (xs : List It) : Int := costs (xs.take (xs.length - m))
theorem must_more {m : Nat} {xs : List It} {d : Int} (h : m ≤ (sv xs d).2.1.length) : must m xs = costs (sv xs d).1 + must m (sv xs d).2.1 := by
  have e := sv_app xs d
  have hl := sv_len xs d
  unfold must
  conv => lhs; rw [← e]
  rw [List.take_append, costs_app, List.take_of_length_le (by rw [List.length_append]; omega), List.length_append]
  rw [show (sv xs d).1.length + (sv xs d).2.1.length - m - (sv xs d).1.length = (sv xs d).2.1.length - m from by omega]
theorem must_le {m : Nat} {xs : List It} {d : Int} (hf : Fair xs) : must m xs ≤ costs (sv xs d).1 + must m (sv xs d).2.1 := by
  by_cases h : m ≤ (sv xs d).2.1.length
  · rw [must_more h]; exact Int.le_refl _
  · have hl := sv_len xs d
    have e := sv_app xs d
    have h0 : 0 ≤ must m (sv xs d).2.1 := (costs_le (fun y hy => hf.rest d y (List.mem_of_mem_take hy))).1
    have h1 : must m xs ≤ costs (sv xs d).1 := by
      unfold must
      conv => lhs; rw [← e]
      rw [List.take_append_of_le_length (by rw [List.length_append]; omega)]
      have h2 := costs_app ((sv xs d).1.take (((sv xs d).1 ++ (sv xs d).2.1).length - m)) ((sv xs d).1.drop (((sv xs d).1 ++ (sv xs d).2.1).length - m))
      rw [List.take_append_drop] at h2
      have h3 := (costs_le (xs := (sv xs d).1.drop (((sv xs d).1 ++ (sv xs d).2.1).length - m)) (fun y hy => hf.out d y (List.mem_of_mem_drop hy))).1
      omega
    omega
theorem must_head {m : Nat} {x : It} {xs : List It} (hf : Fair (x :: xs)) (hm : ¬ (x :: xs).length ≤ m) : x.cost ≤ must m (x :: xs) := by
  unfold must
  rw [show (x :: xs).length - m = (xs.length - m) + 1 from by simp only [List.length_cons] at hm ⊢; omega, List.take_succ_cons]
  have := (costs_le (xs := xs.take (xs.length - m)) (fun y hy => hf y (List.mem_cons_of_mem _ (List.mem_of_mem_take hy)))).1
  unfold costs at this ⊢
  rw [List.map_cons, List.sum_cons]
  omega
theorem sv_wait {xs : List It} {d : Int} (hd : 0 ≤ d) {m : Nat} (hm : ¬ (sv xs d).2.1.length ≤ m) : ∃ x ys, (sv xs d).2.1 = x :: ys ∧ (sv xs d).2.2 < x.cost ∧ costs (sv xs d).1 + (sv xs d).2.2 = d := by
  rcases sv_what (xs := xs) hd with ⟨h, _, _⟩ | ⟨x, ys, h1, _, h3, h4⟩
  · rw [h] at hm; simp at hm
  · exact ⟨x, ys, h1, h3, h4⟩
theorem Tn.wait {m : Nat} {xs : List It} {d : Int} {n : Nat} (h : Tn m xs d (n + 1)) : ¬ xs.length ≤ m := by
  cases h with
  | turn h1 _ => exact h1
theorem tn_hi' {m : Nat} {xs : List It} {d : Int} {n : Nat} (h : Tn m xs d n) : Fair xs → 0 ≤ d → 1 ≤ n → (∀ x ys, xs = x :: ys → d < x.cost) → 64 * ((n : Int) - 1) + d < must m xs := by
  induction h with
  | done _ => intro _ _ h1; omega
  | @turn xs d n hl hT ih =>
    intro hf hd _ hh
    match n, hT, ih with
    | 0, hT, ih =>
      match xs, hl, hh, hf with
      | [], hl, _, _ => simp at hl
      | x :: xs, hl, hh, hf =>
        have := must_head hf hl
        have := hh x xs rfl
        show 64 * (((0 + 1 : Nat) : Int) - 1) + d < _
        omega
    | n + 1, hT, ih =>
      have hw := hT.wait
      obtain ⟨x, ys, e1, e2, e3⟩ := sv_wait (d := d + 64) (by omega) hw
      have hv := sv_left (xs := xs) (d := d + 64) hf (by omega)
      have h1 := ih (hf.rest _) hv.1 (by omega) (fun x' ys' e => by rw [e1] at e; cases e; exact e2)
      have h2 := must_more (m := m) (xs := xs) (d := d + 64) (by omega)
      rw [h2]
      omega
theorem tn_hi {m : Nat} {xs : List It} {d : Int} {n : Nat} (h : Tn m xs d (n + 1)) (hf : Fair xs) (hd : 0 ≤ d) : 64 * (n : Int) < must m xs := by
  match n, h with
  | 0, h =>
    have hl := h.wait
    match xs, hl, hf with
    | [], hl, _ => simp at hl
    | x :: xs, hl, hf =>
      have := must_head hf hl
      have := (hf x List.mem_cons_self).1
      show 64 * ((0 : Nat) : Int) < _
      omega
  | n + 1, h =>
    cases h with
    | turn hl hT =>
      have hw := hT.wait
      obtain ⟨x, ys, e1, e2, e3⟩ := sv_wait (d := d + 64) (by omega) hw
      have hv := sv_left (xs := xs) (d := d + 64) hf (by omega)
      have h1 := tn_hi' hT (hf.rest _) hv.1 (by omega) (fun x' ys' e => by rw [e1] at e; cases e; exact e2)
      have h2 := must_more (m := m) (xs := xs) (d := d + 64) (by omega)
      rw [h2]
      omega
theorem tn_lo {m : Nat} {xs : List It} {d : Int} {n : Nat} (h : Tn m xs d n) : Fair xs → 0 ≤ d → must m xs ≤ 64 * (n : Int) + d := by
  induction h with
  | @done xs d hl =>
    intro _ hd
    have : must m xs = 0 := by unfold must; rw [show xs.length - m = 0 from by omega]; rfl
    omega
  | @turn xs d n hl hT ih =>
    intro hf hd
    have hv := sv_left (xs := xs) (d := d + 64) hf (by omega)
    have h1 := ih (hf.rest _) hv.1
    have h2 := must_le (m := m) (xs := xs) (d := d + 64) hf
    rcases sv_what (xs := xs) (d := d + 64) (by omega) with ⟨k1, k2, k3⟩ | ⟨x, ys, k1, k2, k3, k4⟩
    · have : must m (sv xs (d + 64)).2.1 = 0 := by unfold must; rw [k1, List.take_nil]; rfl
      omega
    · omega
end Go.Proofs.Ythligipgmicgfaa
