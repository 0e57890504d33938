/- the reference's Silent and Next -/
import Derived.Test.YtajflljemfgkiaaMutB
namespace Go.Proofs.Ytajflljemfgkiaa
open Go.RowKit Go.Shelf Mut

theorem ref_form (m : MuteD) (n : Int) (h0 : 0 ≤ n) (h1 : n ≤ 1099511627776) (hok : m.ok) : sil m n =
    if m.f < m.t then (m.day ((n / 1440 + 3) % 7) && (decide (m.f ≤ n % 1440) && decide (n % 1440 < m.t)))
    else ((m.day ((n / 1440 + 3) % 7) && decide (m.f ≤ n % 1440)) || ((decide (1440 ≤ n) && m.day (((n / 1440 + 3) % 7 + 6) % 7)) && decide (n % 1440 < m.t))) := by
  have e1 : m.on (n / 1440) ↔ m.day ((n / 1440 + 3) % 7) = true := by
    unfold MuteD.on
    constructor
    · rintro ⟨_, _, h⟩; exact h
    · intro h; exact ⟨by omega, by omega, h⟩
  have e2 : m.on (n / 1440 - 1) ↔ (1440 ≤ n ∧ m.day (((n / 1440 + 3) % 7 + 6) % 7) = true) := by
    unfold MuteD.on
    rw [show (n / 1440 - 1 + 3) % 7 = ((n / 1440 + 3) % 7 + 6) % 7 from by omega]
    constructor
    · rintro ⟨a, _, h⟩; exact ⟨by omega, h⟩
    · rintro ⟨a, h⟩; exact ⟨by omega, by omega, h⟩
  rw [Bool.eq_iff_iff]
  unfold sil
  rw [decide_eq_true_iff]
  unfold Sil
  rw [e1, e2]
  by_cases hft : m.f < m.t
  · rw [if_pos hft]
    simp [h0, h1, hok]
    have : ¬ m.t ≤ m.f := by omega
    simp [this]
  · rw [if_neg hft]
    have : m.t ≤ m.f := by omega
    simp [h0, h1, hok, this]
    constructor
    · rintro (⟨⟨a, b⟩, c⟩ | ⟨a, b⟩)
      · exact .inr ⟨⟨a, b⟩, c⟩
      · exact .inl ⟨a, b⟩
    · rintro (⟨a, b⟩ | ⟨⟨a, b⟩, c⟩)
      · exact .inr ⟨a, b⟩
      · exact .inl ⟨⟨a, b⟩, c⟩

set_option maxRecDepth 100000 in
set_option maxHeartbeats 2000000 in
theorem rsilent_bad (m : MuteD) (n : Int) (w : World) (h : n < 0 ∨ 1099511627776 < n ∨ ¬ m.ok) :
    Calls Try.prog 35 #[.agg #[.string m.nm, .bool m.d0, .bool m.d1, .bool m.d2, .bool m.d3, .bool m.d4, .bool m.d5, .bool m.d6, .int .i64 m.f, .int .i64 m.t], .int .i64 n] w (TellsB (sil m n) w) := by
  have hs : sil m n = false := by
    unfold sil
    rw [decide_eq_false_iff_not]
    rintro ⟨a, b, c, _⟩
    rcases h with h | h | h
    · omega
    · omega
    · exact h c
  rw [hs]
  clear hs
  have h' : n < 0 ∨ 1099511627776 < n ∨ m.f < 0 ∨ 1439 < m.f ∨ m.t < 1 ∨ 1440 < m.t := by unfold MuteD.ok at h; omega
  clear h
  by_cases g1 : n < 0
  · clear h'
    go_enter Try.func35, Try.ntmps35
    go_wp2
    go_ret
    exact ⟨rfl, (Below.refl _ _).alloc (Nat.le_refl _) _⟩
  by_cases g2 : 1099511627776 < n
  · clear h'
    go_enter Try.func35, Try.ntmps35
    go_wp2
    go_ret
    exact ⟨rfl, (Below.refl _ _).alloc (Nat.le_refl _) _⟩
  by_cases g3 : m.f < 0
  · clear h'
    go_enter Try.func35, Try.ntmps35
    go_wp2
    go_ret
    exact ⟨rfl, (Below.refl _ _).alloc (Nat.le_refl _) _⟩
  by_cases g4 : 1439 < m.f
  · clear h'
    go_enter Try.func35, Try.ntmps35
    go_wp2
    go_ret
    exact ⟨rfl, (Below.refl _ _).alloc (Nat.le_refl _) _⟩
  by_cases g5 : m.t < 1
  · clear h'
    go_enter Try.func35, Try.ntmps35
    go_wp2
    go_ret
    exact ⟨rfl, (Below.refl _ _).alloc (Nat.le_refl _) _⟩
  · have g6 : 1440 < m.t := by omega
    clear h'
    go_enter Try.func35, Try.ntmps35
    go_wp2
    go_ret
    exact ⟨rfl, (Below.refl _ _).alloc (Nat.le_refl _) _⟩

theorem mute_day {m : MuteD} {W : World} {b : Nat} {t : TypeId} (hm : W.heap[b]? = some (.cells #[.string m.nm, .bool m.d0, .bool m.d1, .bool m.d2, .bool m.d3, .bool m.d4, .bool m.d5, .bool m.d6, .int .i64 m.f, .int .i64 m.t] t (0, 0))) (wd : Int) (h0 : 0 ≤ wd) (h1 : wd < 7) : W.cell? ⟨b, 1 + wd.toNat, none⟩ = some (.bool (m.day wd)) := by
  rcases (show wd = 0 ∨ wd = 1 ∨ wd = 2 ∨ wd = 3 ∨ wd = 4 ∨ wd = 5 ∨ wd = 6 by omega) with rfl | rfl | rfl | rfl | rfl | rfl | rfl <;> simp [World.cell?, hm, MuteD.day]

set_option maxRecDepth 100000 in
set_option maxHeartbeats 2000000 in
theorem rsilent_good (m : MuteD) (n : Int) (w : World) (h0 : 0 ≤ n) (h1 : n ≤ 1099511627776) (hok : m.ok) :
    Calls Try.prog 35 #[.agg #[.string m.nm, .bool m.d0, .bool m.d1, .bool m.d2, .bool m.d3, .bool m.d4, .bool m.d5, .bool m.d6, .int .i64 m.f, .int .i64 m.t], .int .i64 n] w (TellsB (sil m n) w) := by
  have hform := ref_form m n h0 h1 hok
  obtain ⟨g1, g2, g3, g4⟩ := hok
  obtain ⟨wd, hwd⟩ : ∃ wd, (n / 1440 + 3) % 7 = wd := ⟨_, rfl⟩
  obtain ⟨mi, hmi⟩ : ∃ mi, n % 1440 = mi := ⟨_, rfl⟩
  have hwd0 : 0 ≤ wd := by omega
  have hwd1 : wd < 7 := by omega
  have hwa0 : 0 ≤ (wd + 6) % 7 := by omega
  have hwa1 : (wd + 6) % 7 < 7 := by omega
  have KD : Hid (∀ w, Calls Try.prog 42 #[.int .i64 n] w fun e w' => e = .returned (.tuple #[.agg #[.int .i64 (Civ.yOf (n / 1440 + 719162)), .int .i64 (Civ.mOf (n / 1440 + 719162)), .int .i64 (Civ.dOf (n / 1440 + 719162)), .int .i64 wd, .int .i64 mi], .int .i64 0]) ∧ Below w.heap.size w w') :=
    Lib.hid (fun w => by have := rdate_any n w h0 h1; rw [hwd, hmi] at this; exact this)
  rw [hwd, hmi] at hform
  have HF := Lib.hid hform
  clear hform hwd hmi
  generalize Civ.yOf (n / 1440 + 719162) = y at KD
  generalize Civ.mOf (n / 1440 + 719162) = mo at KD
  generalize Civ.dOf (n / 1440 + 719162) = d at KD
  go_enter Try.func35, Try.ntmps35
  go_wp2_with fail
  refine (KD.out _).mono ?_
  rintro e w1 ⟨rfl, hb1⟩
  have hB : Below w.heap.size w w1 := ((Below.refl _ w).alloc (Nat.le_refl _) _).trans (hb1.mono (by simp))
  have hlt : w.heap.size < w1.heap.size := by have := hb1.size; simp at this; omega
  have hm : w1.heap[w.heap.size]? = some (.cells #[.string m.nm, .bool m.d0, .bool m.d1, .bool m.d2, .bool m.d3, .bool m.d4, .bool m.d5, .bool m.d6, .int .i64 m.f, .int .i64 m.t] 46 (0, 0)) := (hb1.block _ (by simp)).trans (World.alloc_heap_new w _)
  have cd := mute_day hm wd hwd0 hwd1
  have ca := mute_day hm _ hwa0 hwa1
  obtain ⟨c0, c1, c2, c3, c4, c5, c6, c7, c8, c9⟩ := mute_cells hm
  generalize m.day wd = td at cd HF
  generalize m.day ((wd + 6) % 7) = ta at ca HF
  clear c0 c1 c2 c3 c4 c5 c6 c7 hm hb1 KD
  go_wp2_with fail
  refine wp_gen (fun W => Below w.heap.size w W ∧ w.heap.size < W.heap.size ∧ w1.heap.size < W.heap.size ∧ W.cell? ⟨w.heap.size, 1 + wd.toNat, none⟩ = some (.bool td) ∧ W.cell? ⟨w.heap.size, 1 + ((wd + 6) % 7).toNat, none⟩ = some (.bool ta) ∧ W.cell? ⟨w.heap.size, 8, none⟩ = some (.int .i64 m.f) ∧ W.cell? ⟨w.heap.size, 9, none⟩ = some (.int .i64 m.t) ∧ W.cell? ⟨w1.heap.size, 3, none⟩ = some (.int .i64 wd) ∧ W.cell? ⟨w1.heap.size, 4, none⟩ = some (.int .i64 mi)) ?_ ?_
  · have o : ∀ j, (w1.alloc (.cells #[.int .i64 y, .int .i64 mo, .int .i64 d, .int .i64 wd, .int .i64 mi] 75)).cell? ⟨w.heap.size, j, none⟩ = w1.cell? ⟨w.heap.size, j, none⟩ := fun j => World.cell?_alloc_old _ _ _ (by simp; omega)
    exact ⟨hB.alloc hB.size _, by simp; omega, by simp, (o _).trans cd, (o _).trans ca, (o _).trans c8, (o _).trans c9, by simp, by simp⟩
  clear cd ca c8 c9 hlt hB
  rintro W ⟨hB, hlt, hlt1, cd, ca, c8, c9, e3, e4⟩
  refine still_all (by kernel_rfl) (by kernel_rfl) ?_
  repeat still_step
  refine wpStill_nil ?_
  have HB := Lib.hid (Below.drew hB)
  clear hB
  cases td <;> cases ta <;> by_cases hft : m.f < m.t <;> by_cases hfm : m.f ≤ mi <;> by_cases hmt : mi < m.t <;> by_cases hn : 1440 ≤ n
  all_goals try (exfalso; omega)
  all_goals
    go_wp2_with fail
    go_ret
    refine ⟨ret_bool ?_, HB.out⟩
    rw [HF.out]
    simp [hft, hfm, hmt, hn]

theorem rsilent_any (m : MuteD) (n : Int) (w : World) : Calls Try.prog 35 #[.agg #[.string m.nm, .bool m.d0, .bool m.d1, .bool m.d2, .bool m.d3, .bool m.d4, .bool m.d5, .bool m.d6, .int .i64 m.f, .int .i64 m.t], .int .i64 n] w (TellsB (sil m n) w) := by
  by_cases h : n < 0 ∨ 1099511627776 < n ∨ ¬ m.ok
  · exact rsilent_bad m n w h
  · have hok : m.ok := by
      by_cases hok : m.ok
      · exact hok
      · exact absurd (.inr (.inr hok)) h
    exact rsilent_good m n w (by omega) (by omega) hok

end Go.Proofs.Ytajflljemfgkiaa
