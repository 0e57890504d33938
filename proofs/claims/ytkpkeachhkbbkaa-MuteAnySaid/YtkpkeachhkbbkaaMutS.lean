/- A slice of mutes as an argument. -/
import Derived.Test.YtkpkeachhkbbkaaMutF
import Derived.Test.YtkpkeachhkbbkaaMutL
import Derived.Deep.Slices
import Derived.Laws.AppendOwnNone
namespace Go.Proofs.Ytkpkeachhkbbkaa
open Go.ChangeShapes Go.WideShapes Go.ChangeAt Go.RowKit Mut

theorem open_mutes {H : Type} {enc : TypeId × Value → H} {r : Reach} {b0 : Nat} {W : World} {base : Nat} {sp : Nat → Bool} {held : Bool} {v : Value} {d : DataW H} {p : List MemPlace} (hv : Value.okWide Try.prog W r b0 22 v) (h : DataW.Trod enc Try.prog W base sp held 22 v d p) : ∃ ms, Mutes W v ms := by
  obtain ⟨fuel, hf⟩ := h
  have hu : Try.prog.underlying 22 = some (.slice 26) := by kernel_rfl
  obtain ⟨a0, len0, cap0, rfl⟩ := okWide_slice hu hv
  have hcs : (Value.slice a0 len0 cap0).cells.toList = [.slice a0 len0 cap0] := rfl
  rcases Go.Deep.open_slice hu hf with ⟨hc, _⟩ | ⟨a, len, cap, m, n, D, Pl, hc, hb, hl, hm, hmm, hx, hi⟩
  · exact ⟨[], .inl ⟨by simpa [hcs] using hc, rfl⟩⟩
  · have hlm : len ≤ m := by rw [hmm]; split <;> omega
    rw [cellsOf_mute] at hi
    have hall : ∀ i : Fin len, ∃ x : MuteD, ∀ (j : Nat) (u : Value), #[.string x.nm, .bool x.d0, .bool x.d1, .bool x.d2, .bool x.d3, .bool x.d4, .bool x.d5, .bool x.d6, .int .i64 x.f, .int .i64 x.t][j]? = some u → W.cell? ((a.add (i.val * 10)).add j) = some u := fun i => by
      obtain ⟨cs', h1, h2⟩ := hi i.val (by have := i.isLt; omega)
      obtain ⟨x, hx⟩ := mute_cells_trod h2
      obtain ⟨_, hcl, hat⟩ := World.cells?_some h1
      refine ⟨x, fun j u hu => ?_⟩
      have hj : j < 10 := by
        have := (Array.getElem?_eq_some_iff.1 hu).1
        simpa using this
      rw [hat j hj, hx]
      simpa using hu
    refine ⟨List.ofFn (fun i : Fin len => Classical.choose (hall i)), .inr ⟨a, cap, ?_, ?_, by simpa using hl, hm, ?_⟩⟩
    · rw [List.length_ofFn]; simpa [hcs] using hc
    · intro hpos
      rw [List.length_ofFn] at hpos
      obtain ⟨x, hx0⟩ := hall ⟨0, hpos⟩
      have := World.block_lt_of_cell? W _ (hx0 0 _ rfl)
      rw [add_block, add_block] at this
      exact this
    · intro i x hx j u hu
      obtain ⟨h1, h2⟩ := List.getElem?_eq_some_iff.1 hx
      rw [List.length_ofFn] at h1
      rw [List.getElem_ofFn] at h2
      subst h2
      exact Classical.choose_spec (hall ⟨i, h1⟩) j u hu

/-- the cells of mutes behind one another -/
def flat : List MuteD → List Value
  | [] => []
  | m :: ms => #[.string m.nm, .bool m.d0, .bool m.d1, .bool m.d2, .bool m.d3, .bool m.d4, .bool m.d5, .bool m.d6, .int .i64 m.f, .int .i64 m.t].toList ++ flat ms
theorem flat_len (ms : List MuteD) : (flat ms).length = ms.length * 10 := by
  induction ms with
  | nil => rfl
  | cons m ms ih => unfold flat; rw [List.length_append, ih]; simp; omega
theorem flat_get {ms : List MuteD} {j : Nat} {u : Value} (h : (flat ms)[j]? = some u) : ∃ (i : Nat) (m : MuteD) (k : Nat), ms[i]? = some m ∧ #[.string m.nm, .bool m.d0, .bool m.d1, .bool m.d2, .bool m.d3, .bool m.d4, .bool m.d5, .bool m.d6, .int .i64 m.f, .int .i64 m.t][k]? = some u ∧ j = i * 10 + k := by
  induction ms generalizing j with
  | nil => simp [flat] at h
  | cons m ms ih =>
    unfold flat at h
    by_cases hj : j < 10
    · rw [List.getElem?_append_left (by simpa using hj)] at h
      exact ⟨0, m, j, rfl, by simpa using h, by omega⟩
    · rw [List.getElem?_append_right (by simpa using (by omega : 10 ≤ j))] at h
      have h' : (flat ms)[j - 10]? = some u := by simpa using h
      obtain ⟨i, m', k, h1, h2, h3⟩ := ih h'
      exact ⟨i + 1, m', k, by simpa using h1, h2, by omega⟩
theorem get_flat {ms : List MuteD} {i k : Nat} {m : MuteD} {u : Value} (h : ms[i]? = some m) (hk : #[.string m.nm, .bool m.d0, .bool m.d1, .bool m.d2, .bool m.d3, .bool m.d4, .bool m.d5, .bool m.d6, .int .i64 m.f, .int .i64 m.t][k]? = some u) : (flat ms)[i * 10 + k]? = some u := by
  have hk10 : k < 10 := by
    have := (Array.getElem?_eq_some_iff.1 hk).1
    simpa using this
  induction ms generalizing i with
  | nil => simp at h
  | cons m' ms ih =>
    unfold flat
    match i, h with
    | 0, h =>
      obtain rfl : m' = m := by simpa using h
      rw [List.getElem?_append_left (by simpa using (by omega : 0 * 10 + k < 10))]
      simpa using hk
    | i + 1, h =>
      have h' : ms[i]? = some m := by simpa using h
      rw [List.getElem?_append_right (by simpa using (by omega : 10 ≤ (i + 1) * 10 + k))]
      have := ih h'
      have e : (i + 1) * 10 + k - 10 = i * 10 + k := by omega
      simpa [e] using this
theorem flat_one (ms : List MuteD) : ∀ u ∈ flat ms, u.oneCell' = true := by
  intro u hu
  obtain ⟨j, hj⟩ := List.getElem?_of_mem hu
  obtain ⟨i, m, k, h1, h2, h3⟩ := flat_get hj
  have hk10 : k < 10 := by
    have := (Array.getElem?_eq_some_iff.1 h2).1
    simpa using this
  match k, hk10, h2 with
  | 0, _, h2 | 1, _, h2 | 2, _, h2 | 3, _, h2 | 4, _, h2 | 5, _, h2 | 6, _, h2 | 7, _, h2 | 8, _, h2 | 9, _, h2 => simp at h2; subst h2; rfl
theorem MAt.flat {W : World} {a : Addr} {ms : List MuteD} (h : MAt W a ms) : ∀ (j : Nat) (u : Value), (flat ms)[j]? = some u → W.cell? (a.add j) = some u := by
  intro j u hu
  obtain ⟨i, m, k, h1, h2, rfl⟩ := flat_get hu
  rw [← Addr.add_add]
  exact h i m h1 k u h2
/-- a slice that the call has made, read as mutes -/
theorem Mutes.owned {W : World} {base : Nat} {e : TypeId} {v : Value} {ms : List MuteD} (h : W.ownsRow base e 10 v ms.length (flat ms)) : Mutes W v ms := by
  rcases h.2 with ⟨rfl, h0⟩ | ⟨g, cap, cur, rfl, hb, hg, h1, h2, h3, h4⟩
  · exact .inl ⟨rfl, List.length_eq_zero_iff.1 h0⟩
  · refine .inr ⟨⟨g, 0, none⟩, cap, rfl, fun _ => (Array.getElem?_eq_some_iff.1 hg).1, h1, h2, fun i m hm j u hu => ?_⟩
    rw [Addr.add_add]
    exact h.cells rfl _ _ (get_flat hm hu)
theorem info_mute : (Try.prog.info? 26).map (fun i => (i.zero, i.size, i.bytes)) = some (some (.agg #[.string ⟨#[]⟩, .bool false, .bool false, .bool false, .bool false, .bool false, .bool false, .bool false, .int .i64 0, .int .i64 0]), 10, 40) := by kernel_rfl

end Go.Proofs.Ytkpkeachhkbbkaa
