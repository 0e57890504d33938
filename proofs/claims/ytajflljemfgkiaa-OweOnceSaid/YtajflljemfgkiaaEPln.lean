/- Plain laws of what is due -/
import Derived.Test.YtajflljemfgkiaaEDue
namespace Go.Proofs.Ytajflljemfgkiaa
theorem dueS_mem {rep at_ : Int} {o : List ByteArray} {x : Al} {s : ByteArray} : s ∈ dueS rep at_ o x ↔ s ∈ o ∨ (dueB rep at_ x = true ∧ x.by_ = s) := by
  unfold dueS
  by_cases h : dueB rep at_ x = true
  · cases hh : hasK o x.by_ with
    | true =>
      have hm := hasK_iff.1 hh
      rw [if_neg (by simp)]
      constructor
      · exact fun h' => .inl h'
      · rintro (h' | ⟨_, rfl⟩)
        · exact h'
        · exact hm
    | false =>
      rw [if_pos (by simp [h])]
      simp only [List.mem_append, List.mem_singleton, h, true_and]
      constructor
      · rintro (h' | rfl)
        · exact .inl h'
        · exact .inr rfl
      · rintro (h' | rfl)
        · exact .inl h'
        · exact .inr rfl
  · rw [if_neg (by simp [h])]
    constructor
    · exact fun h' => .inl h'
    · rintro (h' | ⟨h', _⟩)
      · exact h'
      · exact absurd h' h
theorem dueF_mem {rep at_ : Int} {s : ByteArray} : ∀ {l : List Al} {o : List ByteArray}, s ∈ l.foldl (dueS rep at_) o ↔ s ∈ o ∨ ∃ x ∈ l, dueB rep at_ x = true ∧ x.by_ = s
  | [], o => by simp
  | x :: l, o => by
    rw [List.foldl_cons, dueF_mem, dueS_mem]
    constructor
    · rintro ((h | h) | ⟨y, hy, h⟩)
      · exact .inl h
      · exact .inr ⟨x, List.mem_cons_self, h⟩
      · exact .inr ⟨y, List.mem_cons_of_mem _ hy, h⟩
    · rintro (h | ⟨y, hy, h⟩)
      · exact .inl (.inl h)
      · rcases List.mem_cons.1 hy with rfl | hy
        · exact .inl (.inr h)
        · exact .inr ⟨y, hy, h⟩
/-- what is due: just the keys of the alerts that are due -/
theorem dueK_mem {rep at_ : Int} {l : List Al} {s : ByteArray} : s ∈ dueK rep l at_ ↔ ∃ x ∈ l, dueB rep at_ x = true ∧ x.by_ = s := by
  unfold dueK
  rw [dueF_mem]
  simp
theorem dueS_nodup {rep at_ : Int} {o : List ByteArray} {x : Al} (h : o.Nodup) : (dueS rep at_ o x).Nodup := by
  unfold dueS
  split
  · rename_i hc
    have hh : hasK o x.by_ = false := by
      cases hq : hasK o x.by_
      · rfl
      · rw [hq] at hc; simp at hc
    rw [List.nodup_append]
    refine ⟨h, by simp, fun a ha b hb e => ?_⟩
    obtain rfl := List.mem_singleton.1 hb
    have := hasK_iff.2 (e ▸ ha)
    rw [hh] at this
    cases this
  · exact h
theorem dueK_nodup (rep : Int) (l : List Al) (at_ : Int) : (dueK rep l at_).Nodup := by
  unfold dueK
  have : ∀ (l : List Al) (o : List ByteArray), o.Nodup → (l.foldl (dueS rep at_) o).Nodup := by
    intro l
    induction l with
    | nil => exact fun o h => h
    | cons x l ih => exact fun o h => ih _ (dueS_nodup h)
  exact this l [] List.nodup_nil
theorem dueL_mem {R : Rl} {ms : List Mut.MuteD} {l : List Al} {at_ : Int} {s : ByteArray} : s ∈ dueL R ms l at_ ↔ mutedB ms R.mutes at_ = false ∧ ∃ x ∈ l, dueB R.rep at_ x = true ∧ x.by_ = s := by
  unfold dueL
  split
  · rename_i h
    simp [h]
  · rename_i h
    rw [dueK_mem]
    have : mutedB ms R.mutes at_ = false := by simpa using h
    simp [this]
theorem dueL_nodup (R : Rl) (ms : List Mut.MuteD) (l : List Al) (at_ : Int) : (dueL R ms l at_).Nodup := by
  unfold dueL
  split
  · exact List.nodup_nil
  · exact dueK_nodup _ _ _
theorem dueL_len (R : Rl) (ms : List Mut.MuteD) (l : List Al) (at_ : Int) : (dueL R ms l at_).length ≤ l.length := by
  unfold dueL
  split
  · simp
  · exact dueK_len _ _ _
end Go.Proofs.Ytajflljemfgkiaa
