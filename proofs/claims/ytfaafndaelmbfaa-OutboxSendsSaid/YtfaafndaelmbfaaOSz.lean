/- A message handed in, the sizes of its lists kept. -/
import Derived.Test.YtfaafndaelmbfaaOOpn
import Derived.SizedLaws
namespace Go.Proofs.Ytfaafndaelmbfaa
open Go.ChangeShapes Go.WideShapes Go.ChangeAt Go.RowKit

/-- all of it is within the reach n -/
def Szd {H : Type} (P : Program) (t : TypeId) (d : DataW H) (n : Nat) : Prop := ∀ m ∈ d.weights P t, m ≤ n
theorem weights_all {H : Type} {P : Program} {e : TypeId} {d : DataW H} : ∀ {l : List (DataW H)}, d ∈ l → ∀ n ∈ d.weights P e, n ∈ DataW.weightsAll P e l
  | [], h, _, _ => by cases h
  | x :: l, h, n, hn => by
    simp only [DataW.weightsAll, List.mem_append]
    rcases List.mem_cons.1 h with rfl | h
    · exact .inl hn
    · exact .inr (weights_all h n hn)
section
variable {H : Type} {encH : TypeId × Value → H} {P : Program} {W : World} {base : Nat} {sp : Nat → Bool} {held : Bool}
theorem open_rows_sz {α : Type} {T E : TypeId} {size : Nat} {G : α → DataW H → Prop} {fuel : Nat} {cs : List Value} {y : DataW H × List MemPlace} (hu : P.underlying T = some (.slice E)) (hc : P.cellsOf E = size) (hz : 0 < size) (enc : α → List Value) (he : ∀ x, (enc x).length = size)
    (helem : ∀ {n : Nat} {cs : List Value} {y : DataW H × List MemPlace}, DataW.trod encH P W base sp held n E cs = some y → ∃ x, cs = enc x ∧ G x y.1) (h : DataW.trod encH P W base sp held fuel T cs = some y) : ∃ v xs, cs = [v] ∧ Sl (fun _ => True) W v size enc xs ∧ (∀ n, Szd P T y.1 n → xs.length * P.bytesOf E ≤ n) ∧ ∀ x ∈ xs, ∃ d, G x d ∧ ∀ n, Szd P T y.1 n → Szd P E d n := by
  rcases Go.Deep.open_slice hu h with ⟨hc, _⟩ | ⟨a, len, cap, m, n, D, Pl, hcs, hb, hl, hm, hmm, hx, hi⟩
  · exact ⟨_, [], hc, Sl.nil _ _, fun n _ => by simp, fun x hx => by cases hx⟩
  · have hlm : len ≤ m := by rw [hmm]; split <;> omega
    rw [hc] at hi
    have hall : ∀ i : Fin len, ∃ x : α, G x (D i.val) ∧ ∀ (j : Nat) (u : Value), (enc x)[j]? = some u → W.cell? ((a.add (i.val * size)).add j) = some u := fun i => by
      obtain ⟨cs', h1, h2⟩ := hi i.val (by have := i.isLt; omega)
      obtain ⟨x, hx, hg⟩ := helem h2
      obtain ⟨_, hcl, hat⟩ := World.cells?_some h1
      refine ⟨x, hg, fun j u hu => ?_⟩
      have hj : j < size := by
        have := (List.getElem?_eq_some_iff.1 hu).1
        rw [he] at this
        exact this
      rw [hat j hj, hx]
      exact hu
    refine ⟨_, List.ofFn (fun i : Fin len => Classical.choose (hall i)), hcs, .inr ⟨a, cap, ?_, ?_, by simpa using hl, hm, ?_⟩, ?_, ?_⟩
    · rw [List.length_ofFn]
    · intro hpos
      rw [List.length_ofFn] at hpos
      refine ⟨?_, trivial⟩
      obtain ⟨cs', h1, h2⟩ := hi 0 (by omega)
      obtain ⟨x, hx, hg⟩ := helem h2
      obtain ⟨_, hcl, hat⟩ := World.cells?_some h1
      have := hat 0 hz
      rw [hx] at this
      have h3 : (enc x)[0]? = some ((enc x)[0]'(by rw [he]; exact hz)) := List.getElem?_eq_getElem _
      rw [h3] at this
      have h4 := World.block_lt_of_cell? W _ this
      rw [add_block', add_block'] at h4
      exact h4
    · intro i x hx j u hu
      obtain ⟨h1, h2⟩ := List.getElem?_eq_some_iff.1 hx
      rw [List.length_ofFn] at h1
      rw [List.getElem_ofFn] at h2
      subst h2
      exact (Classical.choose_spec (hall ⟨i, h1⟩)).2 j u hu
    · intro n hn
      rw [hx] at hn
      have := hn ((((List.range len).map D).length + ((List.range (m - len)).map fun j => D (len + j)).length) * P.bytesOf E) (by simp [DataW.weights, hu])
      rw [List.length_ofFn]
      simp only [List.length_map, List.length_range] at this
      exact Nat.le_trans (Nat.mul_le_mul_right _ (by omega)) this
    · intro x hxm
      obtain ⟨i, hi⟩ := List.getElem?_of_mem hxm
      obtain ⟨h1, h2⟩ := List.getElem?_eq_some_iff.1 hi
      rw [List.length_ofFn] at h1
      rw [List.getElem_ofFn] at h2
      subst h2
      refine ⟨D i, (Classical.choose_spec (hall ⟨i, h1⟩)).1, fun n hn k hk => hn k ?_⟩
      rw [hx]
      have := weights_all (e := E) (P := P) (d := D i) (l := (List.range len).map D) (List.mem_map.2 ⟨i, List.mem_range.2 h1, rfl⟩) k hk
      simp [DataW.weights, hu, this]
end
theorem trod_ks_sz {H : Type} {encH : TypeId × Value → H} {W : World} {base : Nat} {sp : Nat → Bool} {held : Bool} {fuel : Nat} {cs : List Value} {y : DataW H × List MemPlace} (h : DataW.trod encH Try.prog W base sp held fuel 28 cs = some y) : ∃ v xs, cs = [v] ∧ Sl (fun _ => True) W v 1 encS xs ∧ ∀ n, Szd Try.prog 28 y.1 n → xs.length * 16 ≤ n := by
  obtain ⟨v, xs, h1, h2, h3, _⟩ := open_rows_sz (T := 28) (E := 9) (size := 1) (G := fun _ _ => True) (by kernel_rfl) (by kernel_rfl) (by decide) encS (fun _ => rfl) (fun h => by
    obtain ⟨z, hz, h2⟩ := DataW.trod_string (by kernel_rfl) h
    exact ⟨z, by simpa using hz, trivial⟩) h
  exact ⟨v, xs, h1, h2, fun n hn => by have := h3 n hn; rwa [show Try.prog.bytesOf 9 = 16 from by kernel_rfl] at this⟩
theorem trod_ss_sz {H : Type} {encH : TypeId × Value → H} {W : World} {base : Nat} {sp : Nat → Bool} {held : Bool} {fuel : Nat} {cs : List Value} {y : DataW H × List MemPlace} (h : DataW.trod encH Try.prog W base sp held fuel 29 cs = some y) : ∃ v xs, cs = [v] ∧ Sl (fun _ => True) W v 1 encJ xs ∧ ∀ n, Szd Try.prog 29 y.1 n → xs.length * 8 ≤ n := by
  obtain ⟨v, xs, h1, h2, h3, _⟩ := open_rows_sz (T := 29) (E := 3) (size := 1) (G := fun _ _ => True) (by kernel_rfl) (by kernel_rfl) (by decide) encJ (fun _ => rfl) (fun h => by
    obtain ⟨z, hz, h2⟩ := DataW.trod_int (k := .i64) (by kernel_rfl) h
    exact ⟨z, by simpa using hz, trivial⟩) h
  exact ⟨v, xs, h1, h2, fun n hn => by have := h3 n hn; rwa [show Try.prog.bytesOf 3 = 8 from by kernel_rfl] at this⟩
theorem open_msg_sz {H : Type} {encH : TypeId × Value → H} {r : Reach} {b0 : Nat} {W : World} {base : Nat} {sp : Nat → Bool} {held : Bool} {v : Value} {d : DataW H} {p : List MemPlace} (hv : Value.okWide Try.prog W r b0 31 v) (h : DataW.Trod encH Try.prog W base sp held 31 v d p) : ∃ x : Mr, v = .agg (encM x).toArray ∧ Mo (fun _ => True) W x ∧ ∀ n, Szd Try.prog 31 d n → x.m.ks.length * 16 ≤ n ∧ x.m.ss.length * 8 ≤ n := by
  obtain ⟨cs, rfl, hsz⟩ := okWide_struct under_msg hv
  obtain ⟨fuel, hf⟩ := h
  obtain ⟨xs, k, _, hy, hl, hx, hf⟩ := DataW.trod_struct under_msg hf
  have hcs : cs.toList = (Value.agg cs).cells.toList := rfl
  rw [cells_msg] at hl
  obtain ⟨cs⟩ := cs
  match cs, hl with
  | [c0, c1, c2, c3, c4], _ =>
    have sm : ∀ i, i < 5 → ∃ y, xs[i]? = some y := fun i h => ⟨_, List.getElem?_eq_getElem (by rw [hx]; exact h)⟩
    obtain ⟨y0, e0⟩ := sm 0 (by omega)
    have h0 : DataW.trod encH Try.prog W base sp held k 27 (([c0, c1, c2, c3, c4].drop 0).take (Try.prog.cellsOf 27)) = xs[0]? := hf 0 _ rfl
    rw [e0, show Try.prog.cellsOf 27 = 1 from by kernel_rfl] at h0
    obtain ⟨f0, g0, w0⟩ := open_int_cell (k := .u32) (by kernel_rfl) h0
    obtain ⟨y1, e1⟩ := sm 1 (by omega)
    have h1 : DataW.trod encH Try.prog W base sp held k 9 (([c0, c1, c2, c3, c4].drop 1).take (Try.prog.cellsOf 9)) = xs[1]? := hf 1 _ rfl
    rw [e1, show Try.prog.cellsOf 9 = 1 from by kernel_rfl] at h1
    obtain ⟨f1, g1⟩ := open_string_cell (by kernel_rfl) h1
    obtain ⟨y2, e2⟩ := sm 2 (by omega)
    have h2 : DataW.trod encH Try.prog W base sp held k 3 (([c0, c1, c2, c3, c4].drop 2).take (Try.prog.cellsOf 3)) = xs[2]? := hf 2 _ rfl
    rw [e2, show Try.prog.cellsOf 3 = 1 from by kernel_rfl] at h2
    obtain ⟨f2, g2, w2⟩ := open_int_cell (k := .i64) (by kernel_rfl) h2
    obtain ⟨y3, e3⟩ := sm 3 (by omega)
    have h3 : DataW.trod encH Try.prog W base sp held k 28 (([c0, c1, c2, c3, c4].drop 3).take (Try.prog.cellsOf 28)) = xs[3]? := hf 3 _ rfl
    rw [e3, show Try.prog.cellsOf 28 = 1 from by kernel_rfl] at h3
    obtain ⟨v3, f3, g3, w3, z3⟩ := trod_ks_sz h3
    obtain ⟨y4, e4⟩ := sm 4 (by omega)
    have h4 : DataW.trod encH Try.prog W base sp held k 29 (([c0, c1, c2, c3, c4].drop 4).take (Try.prog.cellsOf 29)) = xs[4]? := hf 4 _ rfl
    rw [e4, show Try.prog.cellsOf 29 = 1 from by kernel_rfl] at h4
    obtain ⟨v4, f4, g4, w4, z4⟩ := trod_ss_sz h4
    try simp at g0 g1 g2 g3 g4
    refine ⟨⟨v3, v4, ⟨f0, f1, f2, f3, f4⟩⟩, by simp [g0, g1, g2, g3, g4], ⟨w3, w4⟩, fun n hn => ⟨z3 n fun m hm => hn m ?_, z4 n fun m hm => hn m ?_⟩⟩
    · rw [show d = _ from congrArg Prod.fst hy]
      have := DataW.weights_mem_each (P := Try.prog) (ts := (flds_msg.toList.map (·.type))) (ds := xs.map (·.1)) (j := 3) (t := 28) (d := y3.1) rfl (by rw [List.getElem?_map, e3]; rfl) m hm
      simp only [DataW.weights, under_msg]
      exact this
    · rw [show d = _ from congrArg Prod.fst hy]
      have := DataW.weights_mem_each (P := Try.prog) (ts := (flds_msg.toList.map (·.type))) (ds := xs.map (·.1)) (j := 4) (t := 29) (d := y4.1) rfl (by rw [List.getElem?_map, e4]; rfl) m hm
      simp only [DataW.weights, under_msg]
      exact this
end Go.Proofs.Ytfaafndaelmbfaa
