/- Cells opened: small laws. -/
import Derived.Test.YtfaafndaelmbfaaQMem
import Derived.Test.YtfaafndaelmbfaaChecked
import Derived.Deep.Slices
import Derived.OpenShut
import Derived.WideShapes
import Derived.ProofKit
namespace Go.Proofs.Ytfaafndaelmbfaa
open Go.ChangeShapes Go.WideShapes Go.ChangeAt Go.RowKit

section
variable {H : Type} {encH : TypeId × Value → H} {P : Program} {W : World} {base : Nat} {sp : Nat → Bool} {held : Bool}
theorem open_int_cell {t : TypeId} {k : IntKind} {fuel : Nat} {c : Value} {y : DataW H × List MemPlace} (hu : P.underlying t = some (.int k)) (h : DataW.trod encH P W base sp held fuel t [c] = some y) : ∃ n, c = .int k n ∧ (Lit.int k n).wf = true := by
  obtain ⟨n, hn, h2⟩ := DataW.trod_int hu h
  exact ⟨n, by simpa using hn, by simp_all⟩
theorem open_bool_cell {t : TypeId} {fuel : Nat} {c : Value} {y : DataW H × List MemPlace} (hu : P.underlying t = some .bool) (h : DataW.trod encH P W base sp held fuel t [c] = some y) : ∃ b, c = .bool b := by
  obtain ⟨b, hb, _⟩ := DataW.trod_bool hu h
  exact ⟨b, by simpa using hb⟩
theorem open_string_cell {t : TypeId} {fuel : Nat} {c : Value} {y : DataW H × List MemPlace} (hu : P.underlying t = some .string) (h : DataW.trod encH P W base sp held fuel t [c] = some y) : ∃ s, c = .string s := by
  obtain ⟨s, hs, _⟩ := DataW.trod_string hu h
  exact ⟨s, by simpa using hs⟩
theorem open_rows {α : Type} {T E : TypeId} {size : Nat} {G : α → Prop} {fuel : Nat} {cs : List Value} {y : DataW H × List MemPlace} (hu : P.underlying T = some (.slice E)) (hc : P.cellsOf E = size) (hz : 0 < size) (enc : α → List Value) (he : ∀ x, (enc x).length = size)
    (helem : ∀ {n : Nat} {cs : List Value} {y : DataW H × List MemPlace}, DataW.trod encH P W base sp held n E cs = some y → ∃ x, cs = enc x ∧ G x) (h : DataW.trod encH P W base sp held fuel T cs = some y) : ∃ v xs, cs = [v] ∧ Sl (fun _ => True) W v size enc xs ∧ ∀ x ∈ xs, G x := by
  rcases Go.Deep.open_slice hu h with ⟨hc, _⟩ | ⟨a, len, cap, m, n, D, Pl, hcs, hb, hl, hm, hmm, hx, hi⟩
  · exact ⟨_, [], hc, Sl.nil _ _, fun x hx => by cases hx⟩
  · have hlm : len ≤ m := by rw [hmm]; split <;> omega
    rw [hc] at hi
    have hall : ∀ i : Fin len, ∃ x : α, G x ∧ ∀ (j : Nat) (u : Value), (enc x)[j]? = some u → W.cell? ((a.add (i.val * size)).add j) = some u := fun i => by
      obtain ⟨cs', h1, h2⟩ := hi i.val (by have := i.isLt; omega)
      obtain ⟨x, hx, hg⟩ := helem h2
      obtain ⟨_, hcl, hat⟩ := World.cells?_some h1
      refine ⟨x, hg, fun j u hu => ?_⟩
      have hj : j < size := by
        have := (List.getElem?_eq_some_iff.1 hu).1
        rw [he] at this
        exact this
      rw [hat j hj, hx]
      exact hu
    refine ⟨_, List.ofFn (fun i : Fin len => Classical.choose (hall i)), hcs, .inr ⟨a, cap, ?_, ?_, by simpa using hl, hm, ?_⟩, ?_⟩
    · rw [List.length_ofFn]
    · intro hpos
      rw [List.length_ofFn] at hpos
      refine ⟨?_, trivial⟩
      obtain ⟨cs', h1, h2⟩ := hi 0 (by omega)
      obtain ⟨x, hx, hg⟩ := helem h2
      obtain ⟨_, hcl, hat⟩ := World.cells?_some h1
      have := hat 0 hz
      rw [hx] at this
      have h3 : (enc x)[0]? = some ((enc x)[0]'(by rw [he]; exact hz)) := List.getElem?_eq_getElem _
      rw [h3] at this
      have h4 := World.block_lt_of_cell? W _ this
      rw [add_block', add_block'] at h4
      exact h4
    · intro i x hx j u hu
      obtain ⟨h1, h2⟩ := List.getElem?_eq_some_iff.1 hx
      rw [List.length_ofFn] at h1
      rw [List.getElem_ofFn] at h2
      subst h2
      exact (Classical.choose_spec (hall ⟨i, h1⟩)).2 j u hu
    · intro x hx
      obtain ⟨i, hi⟩ := List.getElem?_of_mem hx
      obtain ⟨h1, h2⟩ := List.getElem?_eq_some_iff.1 hi
      rw [List.length_ofFn] at h1
      rw [List.getElem_ofFn] at h2
      subst h2
      exact (Classical.choose_spec (hall ⟨i, h1⟩)).1
end
abbrev encN (n : Int) : List Value := [.int .i64 n]
theorem encN_len (n : Int) : (encN n).length = 1 := rfl
theorem open_ints' {H : Type} {encH : TypeId × Value → H} {r : Reach} {b0 : Nat} {W : World} {base : Nat} {sp : Nat → Bool} {held : Bool} {v : Value} {d : DataW H} {p : List MemPlace} (hv : Value.okWide Try.prog W r b0 29 v) (h : DataW.Trod encH Try.prog W base sp held 29 v d p) : ∃ xs, Sl (fun _ => True) W v 1 encN xs ∧ ∀ x ∈ xs, (Lit.int .i64 x).wf = true := by
  obtain ⟨fuel, hf⟩ := h
  obtain ⟨a0, len0, cap0, rfl⟩ := okWide_slice (e := 3) (by kernel_rfl) hv
  obtain ⟨v, xs, h1, h2⟩ := open_rows (T := 29) (E := 3) (size := 1) (G := fun x => (Lit.int .i64 x).wf = true) (by kernel_rfl) (by kernel_rfl) (by decide) encN (fun _ => rfl) (fun {n cs y} h => by
    obtain ⟨z, hz, h2⟩ := DataW.trod_int (k := .i64) (by kernel_rfl) h
    exact ⟨z, by simpa using hz, by simp_all⟩) hf
  have : v = .slice a0 len0 cap0 := by simpa [Value.cells] using h1.symm
  subst this
  exact ⟨xs, h2⟩
end Go.Proofs.Ytfaafndaelmbfaa
