/- The items of an argument, their sizes kept. -/
import Derived.Test.YthligipgmicgfaaQOpe
import Derived.SizedLaws
namespace Go.Proofs.Ythligipgmicgfaa
open Go.ChangeShapes Go.WideShapes Go.ChangeAt Go.RowKit

/-- all of it is within the reach n -/
def Szd {H : Type} (P : Program) (t : TypeId) (d : DataW H) (n : Nat) : Prop := ∀ m ∈ d.weights P t, m ≤ n
theorem weights_all {H : Type} {P : Program} {e : TypeId} {d : DataW H} : ∀ {l : List (DataW H)}, d ∈ l → ∀ n ∈ d.weights P e, n ∈ DataW.weightsAll P e l
  | [], h, _, _ => by cases h
  | x :: l, h, n, hn => by
    simp only [DataW.weightsAll, List.mem_append]
    rcases List.mem_cons.1 h with rfl | h
    · exact .inl hn
    · exact .inr (weights_all h n hn)
section
variable {H : Type} {encH : TypeId × Value → H} {P : Program} {W : World} {base : Nat} {sp : Nat → Bool} {held : Bool}
theorem open_rows_sz {α : Type} {T E : TypeId} {size : Nat} {G : α → DataW H → Prop} {fuel : Nat} {cs : List Value} {y : DataW H × List MemPlace} (hu : P.underlying T = some (.slice E)) (hc : P.cellsOf E = size) (hz : 0 < size) (enc : α → List Value) (he : ∀ x, (enc x).length = size)
    (helem : ∀ {n : Nat} {cs : List Value} {y : DataW H × List MemPlace}, DataW.trod encH P W base sp held n E cs = some y → ∃ x, cs = enc x ∧ G x y.1) (h : DataW.trod encH P W base sp held fuel T cs = some y) : ∃ v xs, cs = [v] ∧ Sl (fun _ => True) W v size enc xs ∧ (∀ n, Szd P T y.1 n → xs.length * P.bytesOf E ≤ n) ∧ ∀ x ∈ xs, ∃ d, G x d ∧ ∀ n, Szd P T y.1 n → Szd P E d n := by
  rcases Go.Deep.open_slice hu h with ⟨hc, _⟩ | ⟨a, len, cap, m, n, D, Pl, hcs, hb, hl, hm, hmm, hx, hi⟩
  · exact ⟨_, [], hc, Sl.nil _ _, fun n _ => by simp, fun x hx => by cases hx⟩
  · have hlm : len ≤ m := by rw [hmm]; split <;> omega
    rw [hc] at hi
    have hall : ∀ i : Fin len, ∃ x : α, G x (D i.val) ∧ ∀ (j : Nat) (u : Value), (enc x)[j]? = some u → W.cell? ((a.add (i.val * size)).add j) = some u := fun i => by
      obtain ⟨cs', h1, h2⟩ := hi i.val (by have := i.isLt; omega)
      obtain ⟨x, hx, hg⟩ := helem h2
      obtain ⟨_, hcl, hat⟩ := World.cells?_some h1
      refine ⟨x, hg, fun j u hu => ?_⟩
      have hj : j < size := by
        have := (List.getElem?_eq_some_iff.1 hu).1
        rw [he] at this
        exact this
      rw [hat j hj, hx]
      exact hu
    refine ⟨_, List.ofFn (fun i : Fin len => Classical.choose (hall i)), hcs, .inr ⟨a, cap, ?_, ?_, by simpa using hl, hm, ?_⟩, ?_, ?_⟩
    · rw [List.length_ofFn]
    · intro hpos
      rw [List.length_ofFn] at hpos
      refine ⟨?_, trivial⟩
      obtain ⟨cs', h1, h2⟩ := hi 0 (by omega)
      obtain ⟨x, hx, hg⟩ := helem h2
      obtain ⟨_, hcl, hat⟩ := World.cells?_some h1
      have := hat 0 hz
      rw [hx] at this
      have h3 : (enc x)[0]? = some ((enc x)[0]'(by rw [he]; exact hz)) := List.getElem?_eq_getElem _
      rw [h3] at this
      have h4 := World.block_lt_of_cell? W _ this
      rw [add_block', add_block'] at h4
      exact h4
    · intro i x hx j u hu
      obtain ⟨h1, h2⟩ := List.getElem?_eq_some_iff.1 hx
      rw [List.length_ofFn] at h1
      rw [List.getElem_ofFn] at h2
      subst h2
      exact (Classical.choose_spec (hall ⟨i, h1⟩)).2 j u hu
    · intro n hn
      rw [hx] at hn
      have := hn ((((List.range len).map D).length + ((List.range (m - len)).map fun j => D (len + j)).length) * P.bytesOf E) (by simp [DataW.weights, hu])
      rw [List.length_ofFn]
      simp only [List.length_map, List.length_range] at this
      exact Nat.le_trans (Nat.mul_le_mul_right _ (by omega)) this
    · intro x hxm
      obtain ⟨i, hi⟩ := List.getElem?_of_mem hxm
      obtain ⟨h1, h2⟩ := List.getElem?_eq_some_iff.1 hi
      rw [List.length_ofFn] at h1
      rw [List.getElem_ofFn] at h2
      subst h2
      refine ⟨D i, (Classical.choose_spec (hall ⟨i, h1⟩)).1, fun n hn k hk => hn k ?_⟩
      rw [hx]
      have := weights_all (e := E) (P := P) (d := D i) (l := (List.range len).map D) (List.mem_map.2 ⟨i, List.mem_range.2 h1, rfl⟩) k hk
      simp [DataW.weights, hu, this]
end
theorem trod_labels_sz {H : Type} {encH : TypeId × Value → H} {W : World} {base : Nat} {sp : Nat → Bool} {held : Bool} {fuel : Nat} {cs : List Value} {y : DataW H × List MemPlace} (h : DataW.trod encH Try.prog W base sp held fuel 28 cs = some y) : ∃ v xs, cs = [v] ∧ Sl (fun _ => True) W v 2 encL xs ∧ ∀ n, Szd Try.prog 28 y.1 n → xs.length * 32 ≤ n := by
  obtain ⟨v, xs, h1, h2, h3, _⟩ := open_rows_sz (G := fun _ _ => True) (by kernel_rfl) cells_label (by decide) encL (fun _ => rfl) (fun h => by obtain ⟨x, hx, _⟩ := trod_label h; exact ⟨x, hx, trivial⟩) h
  exact ⟨v, xs, h1, h2, fun n hn => by have := h3 n hn; rwa [show Try.prog.bytesOf 79 = 32 from by kernel_rfl] at this⟩
theorem trod_item_sz {H : Type} {encH : TypeId × Value → H} {W : World} {base : Nat} {sp : Nat → Bool} {held : Bool} {fuel : Nat} {cs : List Value} {y : DataW H × List MemPlace} (h : DataW.trod encH Try.prog W base sp held fuel 32 cs = some y) : ∃ x : Value × It, cs = encI x ∧ LabO W x ∧ ∀ n, Szd Try.prog 32 y.1 n → x.2.ls.length * 32 ≤ n := by
  obtain ⟨xs, k, _, hy, hl, hx, hf⟩ := DataW.trod_struct under_item h
  rw [cells_item] at hl
  match cs, hl with
  | [c0, c1, c2, c3], _ =>
    have sm : ∀ i, i < 3 → ∃ y, xs[i]? = some y := fun i h => ⟨_, List.getElem?_eq_getElem (by rw [hx]; exact h)⟩
    obtain ⟨y0, e0⟩ := sm 0 (by omega)
    have h0 : DataW.trod encH Try.prog W base sp held k 28 (([c0, c1, c2, c3].drop 0).take (Try.prog.cellsOf 28)) = xs[0]? := hf 0 _ rfl
    rw [e0, show Try.prog.cellsOf 28 = 1 from by kernel_rfl] at h0
    obtain ⟨vLabels, fLabels, g0, wLabels, zLabels⟩ := trod_labels_sz h0
    obtain ⟨y1, e1⟩ := sm 1 (by omega)
    have h1 : DataW.trod encH Try.prog W base sp held k 30 (([c0, c1, c2, c3].drop 1).take (Try.prog.cellsOf 30)) = xs[1]? := hf 1 _ rfl
    rw [e1, show Try.prog.cellsOf 30 = 2 from by kernel_rfl] at h1
    obtain ⟨fSample, g1, wSample⟩ := trod_sample h1
    obtain ⟨y2, e2⟩ := sm 2 (by omega)
    have h2 : DataW.trod encH Try.prog W base sp held k 3 (([c0, c1, c2, c3].drop 3).take (Try.prog.cellsOf 3)) = xs[2]? := hf 2 _ rfl
    rw [e2, show Try.prog.cellsOf 3 = 1 from by kernel_rfl] at h2
    obtain ⟨fCost, g2, wCost⟩ := open_int_cell (k := .i64) (by kernel_rfl) h2
    try simp at g0 g1 g2
    refine ⟨(vLabels, ⟨fLabels, fSample.1, fSample.2, fCost⟩), ?_, ?_⟩
    · simp [g0, g1, g2]
    · refine ⟨⟨wLabels, wSample.1, wSample.2, wCost⟩, fun n hn => zLabels n fun m hm => hn m ?_⟩
      rw [hy]
      have := DataW.weights_mem_each (P := Try.prog) (ts := (flds_item.toList.map (·.type))) (ds := xs.map (·.1)) (j := 0) (t := 28) (d := y0.1) rfl (by rw [List.getElem?_map, e0]; rfl) m hm
      simp only [DataW.weights, under_item]
      exact this
theorem open_items_sz {H : Type} {encH : TypeId × Value → H} {r : Reach} {b0 : Nat} {W : World} {base : Nat} {sp : Nat → Bool} {held : Bool} {v : Value} {d : DataW H} {p : List MemPlace} (hv : Value.okWide Try.prog W r b0 36 v) (h : DataW.Trod encH Try.prog W base sp held 36 v d p) : ∃ xs, Sl (fun _ => True) W v 4 encI xs ∧ (∀ x ∈ xs, LabO W x) ∧ ∀ n, Szd Try.prog 36 d n → xs.length * 48 ≤ n ∧ ∀ x ∈ xs, x.2.ls.length * 32 ≤ n := by
  obtain ⟨fuel, hf⟩ := h
  obtain ⟨a0, len0, cap0, rfl⟩ := okWide_slice (e := 32) (by kernel_rfl) hv
  obtain ⟨v, xs, h1, h2, h3, h4⟩ := open_rows_sz (G := fun x dd => LabO W x ∧ ∀ n, Szd Try.prog 32 dd n → x.2.ls.length * 32 ≤ n) (by kernel_rfl) cells_item (by decide) encI (fun _ => rfl) (fun h => trod_item_sz h) hf
  have : v = .slice a0 len0 cap0 := by simpa [Value.cells] using h1.symm
  subst this
  refine ⟨xs, h2, fun x hx => by obtain ⟨_, g, _⟩ := h4 x hx; exact g.1, fun n hn => ⟨?_, fun x hx => ?_⟩⟩
  · have := h3 n hn
    rwa [show Try.prog.bytesOf 32 = 48 from by kernel_rfl] at this
  · obtain ⟨dd, g, g2⟩ := h4 x hx
    exact g.2 n (g2 n hn)
end Go.Proofs.Ythligipgmicgfaa
