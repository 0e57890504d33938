/- Plain laws of mutes: of one day; of two that lie turned; of two sets of days. -/
import Derived.Test.YtkpkeachhkbbkaaMut
namespace Go.Proofs.Ytkpkeachhkbbkaa.Mut
set_option linter.unusedVariables false

theorem on_day {m : MuteD} {day : Int} (hd : ∀ k, 0 ≤ k → k < 7 → (m.day k = true ↔ k = day)) (q : Int) : m.on q ↔ 0 ≤ q ∧ q ≤ 763549741 ∧ (q + 3) % 7 = day := by
  unfold MuteD.on
  rw [hd _ (by omega) (by omega)]
theorem begins_yes {m : MuteD} {day week x : Int} (hd : ∀ k, 0 ≤ k → k < 7 → (m.day k = true ↔ k = day)) (h1 : 0 ≤ day) (h2 : day < 7) (h3 : 0 ≤ m.f) (h4 : m.f < 1440) (h5 : 1 ≤ m.t) (h6 : m.t ≤ 1440) (h7 : m.f ≠ m.t) (h8 : 1 ≤ week) (h9 : week ≤ 100000)
    (ha : week * 10080 + (day + 4) % 7 * 1440 + m.f ≤ x) (hb : x < week * 10080 + (day + 4) % 7 * 1440 + m.t + (if m.t < m.f then 1440 else 0)) : Sil m x := by
  unfold Sil MuteD.ok
  rw [on_day hd, on_day hd]
  refine ⟨by omega, by split at hb <;> omega, ⟨h3, h4, h5, h6⟩, ?_⟩
  split at hb <;> omega
theorem begins_no {m : MuteD} {day week x : Int} (hd : ∀ k, 0 ≤ k → k < 7 → (m.day k = true ↔ k = day)) (h1 : 0 ≤ day) (h2 : day < 7) (h3 : 0 ≤ m.f) (h4 : m.f < 1440) (h5 : 1 ≤ m.t) (h6 : m.t ≤ 1440) (h7 : m.f ≠ m.t) (h8 : 1 ≤ week) (h9 : week ≤ 100000)
    (ha : x = week * 10080 + (day + 4) % 7 * 1440 + m.f - 1 ∨ x = week * 10080 + (day + 4) % 7 * 1440 + m.t + (if m.t < m.f then 1440 else 0)) : ¬ Sil m x := by
  unfold Sil MuteD.ok
  rw [on_day hd, on_day hd]
  split at ha <;> omega
theorem begins_next {m : MuteD} {day week : Int} (hd : ∀ k, 0 ≤ k → k < 7 → (m.day k = true ↔ k = day)) (h1 : 0 ≤ day) (h2 : day < 7) (h3 : 0 ≤ m.f) (h4 : m.f < 1440) (h5 : 1 ≤ m.t) (h6 : m.t ≤ 1440) (h7 : m.f ≠ m.t) (h8 : 1 ≤ week) (h9 : week ≤ 100000) :
    nxt m (week * 10080 + (day + 4) % 7 * 1440 + m.f) = week * 10080 + (day + 4) % 7 * 1440 + m.t + (if m.t < m.f then 1440 else 0) := by
  have hlt : week * 10080 + (day + 4) % 7 * 1440 + m.f < week * 10080 + (day + 4) % 7 * 1440 + m.t + (if m.t < m.f then 1440 else 0) := by split <;> omega
  have hy := begins_yes (x := week * 10080 + (day + 4) % 7 * 1440 + m.f) hd h1 h2 h3 h4 h5 h6 h7 h8 h9 (by omega) hlt
  refine (isNext m _ (by omega) (by omega)).unique (.inr ⟨⟨hlt, by split <;> omega, fun h => ?_⟩, by split <;> omega, fun x a b c => c.2.2 ?_⟩)
  · exact begins_no hd h1 h2 h3 h4 h5 h6 h7 h8 h9 (.inr rfl) (h.2 hy)
  · exact ⟨fun _ => hy, fun _ => begins_yes hd h1 h2 h3 h4 h5 h6 h7 h8 h9 (by omega) b⟩

/-- a mute of all days -/
def allD (f t : Int) : MuteD := { nm := ⟨#[]⟩, d0 := true, d1 := true, d2 := true, d3 := true, d4 := true, d5 := true, d6 := true, f := f, t := t }
theorem on_all (f t q : Int) : (allD f t).on q ↔ 0 ≤ q ∧ q ≤ 763549741 := by
  unfold MuteD.on
  have : (allD f t).day ((q + 3) % 7) = true := by
    unfold MuteD.day allD
    repeat (split; rfl)
    rfl
  simp [this]
theorem turned {f t n : Int} (h1 : 1 ≤ f) (h2 : f < 1440) (h3 : 1 ≤ t) (h4 : t < 1440) (h5 : f ≠ t) (h6 : 1440 ≤ n) (h7 : n ≤ 1099511627776) : sil (allD f t) n = !sil (allD t f) n := by
  have e : Sil (allD f t) n ↔ ¬ Sil (allD t f) n := by
    unfold Sil MuteD.ok
    rw [on_all, on_all, on_all, on_all]
    simp only [allD]
    omega
  unfold sil
  rw [decide_eq_decide.2 e, decide_not]

/-- the days of one or of the other -/
def orD (a b : MuteD) : MuteD := { a with d0 := a.d0 || b.d0, d1 := a.d1 || b.d1, d2 := a.d2 || b.d2, d3 := a.d3 || b.d3, d4 := a.d4 || b.d4, d5 := a.d5 || b.d5, d6 := a.d6 || b.d6 }
theorem day_or (a b : MuteD) (k : Int) : (orD a b).day k = (a.day k || b.day k) := by
  unfold MuteD.day orD
  repeat (split; rfl)
  rfl
theorem sil_or (a b : MuteD) (n : Int) (hf : a.f = b.f) (ht : a.t = b.t) : sil (orD a b) n = (sil a n || sil b n) := by
  have on_or : ∀ q, (orD a b).on q ↔ a.on q ∨ b.on q := fun q => by
    unfold MuteD.on
    rw [day_or, Bool.or_eq_true]
    constructor
    · rintro ⟨x, y, z | z⟩
      · exact .inl ⟨x, y, z⟩
      · exact .inr ⟨x, y, z⟩
    · rintro (⟨x, y, z⟩ | ⟨x, y, z⟩)
      · exact ⟨x, y, .inl z⟩
      · exact ⟨x, y, .inr z⟩
  have e : Sil (orD a b) n ↔ Sil a n ∨ Sil b n := by
    unfold Sil MuteD.ok
    rw [on_or, on_or]
    have e1 : (orD a b).f = b.f := hf
    have e2 : (orD a b).t = b.t := ht
    rw [e1, e2, hf, ht]
    constructor
    · rintro ⟨x, y, z, (⟨u | u, v⟩ | ⟨u | u, v⟩)⟩
      · exact .inl ⟨x, y, z, .inl ⟨u, v⟩⟩
      · exact .inr ⟨x, y, z, .inl ⟨u, v⟩⟩
      · exact .inl ⟨x, y, z, .inr ⟨u, v⟩⟩
      · exact .inr ⟨x, y, z, .inr ⟨u, v⟩⟩
    · rintro (⟨x, y, z, (⟨u, v⟩ | ⟨u, v⟩)⟩ | ⟨x, y, z, (⟨u, v⟩ | ⟨u, v⟩)⟩)
      · exact ⟨x, y, z, .inl ⟨.inl u, v⟩⟩
      · exact ⟨x, y, z, .inr ⟨.inl u, v⟩⟩
      · exact ⟨x, y, z, .inl ⟨.inr u, v⟩⟩
      · exact ⟨x, y, z, .inr ⟨.inr u, v⟩⟩
  unfold sil
  rw [decide_eq_decide.2 e, Bool.decide_or]

end Go.Proofs.Ytkpkeachhkbbkaa.Mut
