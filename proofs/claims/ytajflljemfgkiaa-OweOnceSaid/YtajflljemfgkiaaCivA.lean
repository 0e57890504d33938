/- Walks of the small functions of package civil. -/
import Derived.Test.YtajflljemfgkiaaRows
import Derived.Test.YtajflljemfgkiaaCiv
import Derived.WalkKit
import Derived.Lib.Hide
import Derived.WalkSpells
import Derived.WalkLawsBesides
namespace Go.Proofs.Ytajflljemfgkiaa
open Go.RowKit

theorem ret_bool {a b : Bool} (h : a = b) : Ending.returned (.bool a) = .returned (.bool b) := by rw [h]
theorem ret_int {k : IntKind} {a b : Int} (h : a = b) : Ending.returned (.int k a) = .returned (.int k b) := by rw [h]
theorem ahd_bds (y : Int) (h0 : -1000000000000 ≤ y) (h1 : y ≤ 1000000000000) : -1000000000000000 ≤ Civ.ahd y ∧ Civ.ahd y ≤ 1000000000000000 := by unfold Civ.ahd; omega

set_option maxHeartbeats 400000 in
theorem ahead_any (y : Int) (w : World) (h0 : 1 ≤ y) (h1 : y ≤ 1000000000000) :
    Calls Try.prog 39 #[.int .i64 y] w fun e w' => e = .returned (.int .i64 (Civ.ahd y)) ∧ w = w' := by
  go_enter Try.func39, Try.ntmps39
  go_wp2
  go_ret
  exact ⟨rfl, rfl⟩

set_option maxHeartbeats 400000 in
theorem leap_any (y : Int) (w : World) :
    Calls Try.prog 47 #[.int .i64 y] w fun e w' => e = .returned (.bool (Civ.leap y)) ∧ w = w' := by
  go_enter Try.func47, Try.ntmps47
  go_wp2
  all_goals
    go_ret
    exact ⟨ret_bool (by rw [Bool.eq_iff_iff, Civ.leap_iff]; simp; omega), rfl⟩

def lens : Value := .agg #[.int .i64 0, .int .i64 31, .int .i64 28, .int .i64 31, .int .i64 30, .int .i64 31, .int .i64 30, .int .i64 31, .int .i64 31, .int .i64 30, .int .i64 31, .int .i64 30, .int .i64 31]
set_option maxHeartbeats 400000 in
theorem lengths_any (w : World) :
    Calls Try.prog 46 #[] w fun e w' => e = .returned lens ∧ Below w.heap.size w w' := by
  go_enter Try.func46, Try.ntmps46
  go_wp2
  exact bodyPost_ret (v := lens) (by simp [results, Try.results46, go_sem, lens]) rfl ⟨rfl, (Below.refl _ _).alloc (Nat.le_refl _) _⟩

set_option maxHeartbeats 400000 in
theorem days_no (y m : Int) (w : World) (h : y < 1 ∨ m < 1 ∨ 12 < m) :
    Calls Try.prog 44 #[.int .i64 y, .int .i64 m] w fun e w' => e = .returned (.int .i64 (Civ.dim y m)) ∧ Below w.heap.size w w' := by
  have hd : Civ.dim y m = 0 := by unfold Civ.dim; rw [if_pos h]
  rw [hd]; clear hd
  by_cases h1 : y < 1
  · go_enter Try.func44, Try.ntmps44
    go_wp2
    go_ret
    exact ⟨rfl, Below.refl _ _⟩
  · by_cases h2 : m < 1
    · go_enter Try.func44, Try.ntmps44
      go_wp2
      go_ret
      exact ⟨rfl, Below.refl _ _⟩
    · have h3 : 12 < m := by omega
      go_enter Try.func44, Try.ntmps44
      go_wp2
      go_ret
      exact ⟨rfl, Below.refl _ _⟩

set_option maxHeartbeats 400000 in
theorem days_m (y m v : Int) (w : World) (h : 1 ≤ y) (h1 : 1 ≤ m) (h2 : m ≤ 12) (h3 : (m == 2) = false) (hi : ∀ w, (Instr.index 79 lens (.int .i64 m)).run Try.prog w = .ok (.int .i64 v) w) :
    Calls Try.prog 44 #[.int .i64 y, .int .i64 m] w fun e w' => e = .returned (.int .i64 v) ∧ Below w.heap.size w w' := by
  go_enter Try.func44, Try.ntmps44
  go_wp2_with (go_at_call 46; refine (lengths_any _).mono ?_; rintro e w1 ⟨rfl, hb⟩)
  go_ret
  exact ⟨rfl, hb⟩

set_option maxHeartbeats 400000 in
theorem days_2 (y : Int) (w : World) (h : 1 ≤ y) :
    Calls Try.prog 44 #[.int .i64 y, .int .i64 2] w fun e w' => e = .returned (.int .i64 (28 + Civ.lp y)) ∧ Below w.heap.size w w' := by
  have hi : ∀ w, (Instr.index 79 lens (.int .i64 2)).run Try.prog w = .ok (.int .i64 28) w := fun _ => by kernel_rfl
  unfold Civ.lp
  cases hl : Civ.leap y with
  | true =>
    have H : Hid (∀ w, Calls Try.prog 47 #[.int .i64 y] w fun e w' => e = .returned (.bool true) ∧ w = w') := Lib.hid (fun w => by have := leap_any y w; rw [hl] at this; exact this)
    clear hl
    go_enter Try.func44, Try.ntmps44
    go_wp2_with (first | (go_at_call 46; refine (lengths_any _).mono ?_; rintro e w1 ⟨rfl, hb⟩) | (go_at_call 47; refine (H.out _).mono ?_; rintro e w2 ⟨rfl, rfl⟩))
    go_ret
    exact ⟨rfl, hb⟩
  | false =>
    have H : Hid (∀ w, Calls Try.prog 47 #[.int .i64 y] w fun e w' => e = .returned (.bool false) ∧ w = w') := Lib.hid (fun w => by have := leap_any y w; rw [hl] at this; exact this)
    clear hl
    go_enter Try.func44, Try.ntmps44
    go_wp2_with (first | (go_at_call 46; refine (lengths_any _).mono ?_; rintro e w1 ⟨rfl, hb⟩) | (go_at_call 47; refine (H.out _).mono ?_; rintro e w2 ⟨rfl, rfl⟩))
    go_ret
    exact ⟨rfl, hb⟩

theorem days_any (y m : Int) (w : World) :
    Calls Try.prog 44 #[.int .i64 y, .int .i64 m] w fun e w' => e = .returned (.int .i64 (Civ.dim y m)) ∧ Below w.heap.size w w' := by
  by_cases h : y < 1 ∨ m < 1 ∨ 12 < m
  · exact days_no y m w h
  · have hy : ¬ y < 1 := by omega
    have hm : m = 1 ∨ m = 2 ∨ m = 3 ∨ m = 4 ∨ m = 5 ∨ m = 6 ∨ m = 7 ∨ m = 8 ∨ m = 9 ∨ m = 10 ∨ m = 11 ∨ m = 12 := by omega
    rcases hm with rfl | rfl | rfl | rfl | rfl | rfl | rfl | rfl | rfl | rfl | rfl | rfl
    · have e : Civ.dim y 1 = 31 := by simp [Civ.dim, hy]
      rw [e]; exact days_m y 1 31 w (by omega) (by omega) (by omega) (by decide) (fun _ => by kernel_rfl)
    · have e : Civ.dim y 2 = 28 + Civ.lp y := by simp [Civ.dim, hy]
      rw [e]; exact days_2 y w (by omega)
    · have e : Civ.dim y 3 = 31 := by simp [Civ.dim, hy]
      rw [e]; exact days_m y 3 31 w (by omega) (by omega) (by omega) (by decide) (fun _ => by kernel_rfl)
    · have e : Civ.dim y 4 = 30 := by simp [Civ.dim, hy]
      rw [e]; exact days_m y 4 30 w (by omega) (by omega) (by omega) (by decide) (fun _ => by kernel_rfl)
    · have e : Civ.dim y 5 = 31 := by simp [Civ.dim, hy]
      rw [e]; exact days_m y 5 31 w (by omega) (by omega) (by omega) (by decide) (fun _ => by kernel_rfl)
    · have e : Civ.dim y 6 = 30 := by simp [Civ.dim, hy]
      rw [e]; exact days_m y 6 30 w (by omega) (by omega) (by omega) (by decide) (fun _ => by kernel_rfl)
    · have e : Civ.dim y 7 = 31 := by simp [Civ.dim, hy]
      rw [e]; exact days_m y 7 31 w (by omega) (by omega) (by omega) (by decide) (fun _ => by kernel_rfl)
    · have e : Civ.dim y 8 = 31 := by simp [Civ.dim, hy]
      rw [e]; exact days_m y 8 31 w (by omega) (by omega) (by omega) (by decide) (fun _ => by kernel_rfl)
    · have e : Civ.dim y 9 = 30 := by simp [Civ.dim, hy]
      rw [e]; exact days_m y 9 30 w (by omega) (by omega) (by omega) (by decide) (fun _ => by kernel_rfl)
    · have e : Civ.dim y 10 = 31 := by simp [Civ.dim, hy]
      rw [e]; exact days_m y 10 31 w (by omega) (by omega) (by omega) (by decide) (fun _ => by kernel_rfl)
    · have e : Civ.dim y 11 = 30 := by simp [Civ.dim, hy]
      rw [e]; exact days_m y 11 30 w (by omega) (by omega) (by omega) (by decide) (fun _ => by kernel_rfl)
    · have e : Civ.dim y 12 = 31 := by simp [Civ.dim, hy]
      rw [e]; exact days_m y 12 31 w (by omega) (by omega) (by omega) (by decide) (fun _ => by kernel_rfl)

end Go.Proofs.Ytajflljemfgkiaa
