/- Memory: what is kept but for some blocks; slices read as lists, in blocks of a kind. -/
import Derived.Below
import Derived.Laws.AppendOwn
import Derived.Laws.AppendOwnNone
import Derived.Laws.CopyRow
import Derived.Laws.MakeOwn
import Derived.DataElems
import Derived.Lib.Hide
namespace Go.Proofs.Ytfaafndaelmbfaa
open Go.RowKit

/-- all is as it was, but for the blocks of F (and new ones) -/
structure Kept (F : Nat → Prop) (w w' : World) : Prop where
  os : w'.os = w.os
  tape : w'.tape = w.tape
  output : w'.output = w.output
  size : w.heap.size ≤ w'.heap.size
  block : ∀ k, k < w.heap.size → ¬ F k → w'.heap[k]? = w.heap[k]?

theorem Kept.refl (F : Nat → Prop) (w : World) : Kept F w w := ⟨rfl, rfl, rfl, Nat.le_refl _, fun _ _ _ => rfl⟩
theorem Kept.of_below {B : Nat} {w w' : World} {F : Nat → Prop} (h : Below B w w') (hB : w.heap.size ≤ B) : Kept F w w' := ⟨h.os, h.tape, h.output, h.size, fun k hk _ => h.block k (by omega)⟩
theorem Kept.below {w w' : World} {F : Nat → Prop} {B : Nat} (h : Kept F w w') (hF : ∀ k, F k → B ≤ k) (hB : B ≤ w.heap.size) : Below B w w' :=
  ⟨h.os, h.tape, h.output, h.size, fun k hk => h.block k (by omega) (fun hf => by have := hF k hf; omega)⟩
theorem Kept.trans {F G H : Nat → Prop} {a b c : World} (h : Kept F a b) (k : Kept G b c) (hF : ∀ i, i < a.heap.size → F i → H i) (hG : ∀ i, i < a.heap.size → G i → H i) : Kept H a c :=
  ⟨k.os.trans h.os, k.tape.trans h.tape, k.output.trans h.output, Nat.le_trans h.size k.size, fun i hi hf =>
    (k.block i (Nat.lt_of_lt_of_le hi h.size) (fun hg => hf (hG i hi hg))).trans (h.block i hi (fun x => hf (hF i hi x)))⟩
theorem Kept.mono {F G : Nat → Prop} {a b : World} (h : Kept F a b) (hFG : ∀ i, i < a.heap.size → F i → G i) : Kept G a b :=
  ⟨h.os, h.tape, h.output, h.size, fun i hi hg => h.block i hi (fun hf => hg (hFG i hi hf))⟩
theorem Kept.alloc {F : Nat → Prop} {a b : World} (h : Kept F a b) (o : Obj) : Kept F a (b.alloc o) :=
  h.trans (Kept.of_below (F := fun _ => False) ((Below.refl _ b).alloc (Nat.le_refl _) o) (Nat.le_refl _)) (fun _ _ x => x) (fun _ _ x => x.elim)
theorem Kept.drew {F : Nat → Prop} {a b : World} (h : Kept F a b) : Kept F a b.drew := ⟨h.os, h.tape, h.output, h.size, h.block⟩
theorem Kept.setCell {F : Nat → Prop} {a b : World} (h : Kept F a b) (p : Addr) (v : Value) (hp : p.block < a.heap.size → F p.block) : Kept F a (b.setCell p v) :=
  ⟨h.os, h.tape, h.output, Nat.le_trans h.size (by simp), fun k hk hf =>
    (Below.heap_setCell b p v k (fun e => hf (e ▸ hp (by omega)))).trans (h.block k hk hf)⟩
theorem Kept.later {F : Nat → Prop} {a b c : World} (h : Kept F a b) (hb : Below b.heap.size b c) : Kept F a c :=
  h.trans (Kept.of_below (F := fun _ => False) hb (Nat.le_refl _)) (fun _ _ x => x) (fun _ _ x => x.elim)
theorem Kept.first {F : Nat → Prop} {a b c : World} (hb : Below a.heap.size a b) (h : Kept F b c) : Kept F a c :=
  (Kept.of_below (F := fun _ => False) hb (Nat.le_refl _)).trans h (fun _ _ x => x.elim) (fun _ _ x => x)
theorem kept_of_below {F : Nat → Prop} {a b : World} (h : Below a.heap.size a b) : Kept F a b := Kept.of_below h (Nat.le_refl _)
theorem below_then {a b c : World} (h : Below a.heap.size a b) (k : Below b.heap.size b c) : Below a.heap.size a c := h.trans (k.mono h.size)
theorem Kept.cell {F : Nat → Prop} {w w' : World} (h : Kept F w w') {a : Addr} (hb : a.block < w.heap.size) (hf : ¬ F a.block) : w'.cell? a = w.cell? a := World.cell?_of_block (h.block _ hb hf)
theorem Kept.grown {F : Nat → Prop} {a b c : World} (h : Kept F a b) {row : Option Nat} (hg : b.grownBy c row) (hr : ∀ k, row = some k → k < a.heap.size → F k) : Kept F a c :=
  ⟨hg.os.trans h.os, hg.tape.trans h.tape, hg.output.trans h.output, Nat.le_trans h.size hg.size, fun k hk hf =>
    (hg.block k (Nat.lt_of_lt_of_le hk h.size) (fun e => hf (hr k e.symm hk))).trans (h.block k hk hf)⟩

/-- the elements of a slice lie behind one another, each of them 'size' cells -/
def RowAt {α : Type} (W : World) (a : Addr) (size : Nat) (enc : α → List Value) (xs : List α) : Prop :=
  ∀ (i : Nat) (x : α), xs[i]? = some x → ∀ (j : Nat) (u : Value), (enc x)[j]? = some u → W.cell? ((a.add (i * size)).add j) = some u
/-- a slice value, read as a list; what it holds lies in a block of S -/
def Sl {α : Type} (S : Nat → Prop) (W : World) (v : Value) (size : Nat) (enc : α → List Value) (xs : List α) : Prop :=
  (v = .slice none 0 0 ∧ xs = []) ∨ ∃ a cap, v = .slice (some a) xs.length cap ∧ (0 < xs.length → a.block < W.heap.size ∧ S a.block) ∧ xs.length ≤ cap ∧ cap ≤ maxLen ∧ RowAt W a size enc xs

theorem add_block' (a : Addr) (k : Nat) : (a.add k).block = a.block := by unfold Addr.add; split <;> rfl
section
variable {α : Type} {S T : Nat → Prop} {W W' : World} {size : Nat} {enc : α → List Value} {xs : List α}
theorem RowAt.keep {a : Addr} (h : RowAt W a size enc xs) (hk : 0 < xs.length → W'.heap[a.block]? = W.heap[a.block]?) : RowAt W' a size enc xs := fun i x hx j u hu => by
  have := h i x hx j u hu
  rw [World.cell?_of_block (w := W)]
  · exact this
  · rw [add_block', add_block']
    exact hk (by have := (List.getElem?_eq_some_iff.1 hx).1; omega)
theorem Sl.keep {v : Value} (h : Sl S W v size enc xs) (hs : W.heap.size ≤ W'.heap.size) (hk : ∀ k, k < W.heap.size → S k → W'.heap[k]? = W.heap[k]?) : Sl S W' v size enc xs := by
  rcases h with h | ⟨a, cap, rfl, h1, h2, h3, h4⟩
  · exact .inl h
  · exact .inr ⟨a, cap, rfl, fun hp => ⟨Nat.lt_of_lt_of_le (h1 hp).1 hs, (h1 hp).2⟩, h2, h3, h4.keep (fun hp => hk _ (h1 hp).1 (h1 hp).2)⟩
theorem Sl.kept {F : Nat → Prop} {v : Value} (h : Sl S W v size enc xs) (hk : Kept F W W') (hf : ∀ k, k < W.heap.size → S k → ¬ F k) : Sl S W' v size enc xs :=
  h.keep hk.size fun k hl hs => hk.block k hl (hf k hl hs)
theorem Sl.below {v : Value} (h : Sl S W v size enc xs) (hb : Below W.heap.size W W') : Sl S W' v size enc xs :=
  h.keep hb.size fun k hl _ => hb.block k hl
theorem Sl.mono {v : Value} (h : Sl S W v size enc xs) (hS : ∀ k, k < W.heap.size → S k → T k) : Sl T W v size enc xs := by
  rcases h with h | ⟨a, cap, rfl, h1, h⟩
  · exact .inl h
  · exact .inr ⟨a, cap, rfl, fun hp => ⟨(h1 hp).1, hS _ (h1 hp).1 (h1 hp).2⟩, h⟩
theorem Sl.cut {p : Option Addr} {n c : Nat} (h : Sl S W (.slice p n c) size enc xs) : Sl S W (.slice p n n) size enc xs := by
  rcases h with ⟨h, hx⟩ | ⟨a, cap, h, h1, h2, h3, h4⟩
  · simp only [Value.slice.injEq] at h
    obtain ⟨rfl, rfl, _⟩ := h
    exact .inl ⟨rfl, hx⟩
  · simp only [Value.slice.injEq] at h
    obtain ⟨rfl, rfl, _⟩ := h
    exact .inr ⟨a, _, rfl, h1, Nat.le_refl _, by omega, h4⟩
theorem Sl.at {p : Option Addr} {n c : Nat} (h : Sl S W (.slice p n c) size enc xs) {i : Nat} {x : α} (hx : xs[i]? = some x) : ∃ a, p = some a ∧ a.block < W.heap.size ∧ S a.block ∧ RowAt W a size enc xs := by
  have hp : 0 < xs.length := by have := (List.getElem?_eq_some_iff.1 hx).1; omega
  rcases h with ⟨h, rfl⟩ | ⟨a, cap, h, h1, h2, h3, h4⟩
  · simp at hp
  · simp only [Value.slice.injEq] at h
    obtain ⟨rfl, _, _⟩ := h
    exact ⟨a, rfl, (h1 hp).1, (h1 hp).2, h4⟩
theorem Sl.len {v : Value} (h : Sl S W v size enc xs) : ∃ p c, v = .slice p xs.length c ∧ xs.length ≤ c ∧ c ≤ maxLen := by
  rcases h with ⟨rfl, rfl⟩ | ⟨a, cap, rfl, h1, h2, h3, h4⟩
  · exact ⟨_, _, rfl, Nat.le_refl _, by simp⟩
  · exact ⟨_, _, rfl, h2, h3⟩
theorem Sl.nil (S : Nat → Prop) (W : World) : Sl S W (.slice none 0 0) size enc ([] : List α) := .inl ⟨rfl, rfl⟩
theorem flat_length (he : ∀ x, (enc x).length = size) (xs : List α) : (xs.flatMap enc).length = xs.length * size := by
  induction xs with
  | nil => simp
  | cons x xs ih => rw [List.flatMap_cons, List.length_append, ih, he, List.length_cons, Nat.succ_mul, Nat.add_comm]
theorem flatMap_get (he : ∀ x, (enc x).length = size) {xs : List α} {j : Nat} {u : Value} (h : (xs.flatMap enc)[j]? = some u) : ∃ (i : Nat) (x : α) (k : Nat), xs[i]? = some x ∧ (enc x)[k]? = some u ∧ j = i * size + k := by
  induction xs generalizing j with
  | nil => simp at h
  | cons x xs ih =>
    rw [List.flatMap_cons] at h
    by_cases hj : j < size
    · rw [List.getElem?_append_left (by rw [he]; exact hj)] at h
      exact ⟨0, x, j, rfl, h, by simp⟩
    · rw [List.getElem?_append_right (by rw [he]; omega), he] at h
      obtain ⟨i, x', k, h1, h2, h3⟩ := ih h
      exact ⟨i + 1, x', k, by simpa using h1, h2, by rw [Nat.succ_mul]; omega⟩
theorem get_flatMap (he : ∀ x, (enc x).length = size) {xs : List α} {i k : Nat} {x : α} {u : Value} (h : xs[i]? = some x) (hk : (enc x)[k]? = some u) : (xs.flatMap enc)[i * size + k]? = some u := by
  have hks : k < size := by have := (List.getElem?_eq_some_iff.1 hk).1; rwa [he] at this
  induction xs generalizing i with
  | nil => simp at h
  | cons x' xs ih =>
    rw [List.flatMap_cons]
    match i, h with
    | 0, h =>
      obtain rfl : x' = x := by simpa using h
      rw [List.getElem?_append_left (by rw [he]; omega)]
      simpa using hk
    | i + 1, h =>
      have h' : xs[i]? = some x := by simpa using h
      rw [List.getElem?_append_right (by rw [he, Nat.succ_mul]; omega), he, show (i + 1) * size + k - size = i * size + k from by rw [Nat.succ_mul]; omega]
      exact ih h'
theorem RowAt.flat {a : Addr} (he : ∀ x, (enc x).length = size) (h : RowAt W a size enc xs) : ∀ (j : Nat) (u : Value), (xs.flatMap enc)[j]? = some u → W.cell? (a.add j) = some u := by
  intro j u hu
  obtain ⟨i, x, k, h1, h2, rfl⟩ := flatMap_get he hu
  rw [← Addr.add_add]
  exact h i x h1 k u h2
theorem RowAt.of_flat {a : Addr} (he : ∀ x, (enc x).length = size) (h : ∀ (j : Nat) (u : Value), (xs.flatMap enc)[j]? = some u → W.cell? (a.add j) = some u) : RowAt W a size enc xs := by
  intro i x hx j u hu
  rw [Addr.add_add]
  exact h _ _ (get_flatMap he hx hu)
theorem Sl.owned {base : Nat} {e : TypeId} {v : Value} (he : ∀ x, (enc x).length = size) (h : W.ownsRow base e size v xs.length (xs.flatMap enc)) : Sl (fun k => v.ownBlock = some k) W v size enc xs := by
  rcases h.2 with ⟨rfl, h0⟩ | ⟨g, cap, cur, rfl, hb, hg, h1, h2, h3, h4⟩
  · exact .inl ⟨rfl, List.length_eq_zero_iff.1 h0⟩
  · exact .inr ⟨⟨g, 0, none⟩, cap, rfl, fun _ => ⟨(Array.getElem?_eq_some_iff.1 hg).1, rfl⟩, h1, h2, .of_flat he (h.cells rfl)⟩
theorem flat_oneCell (h : ∀ x, ∀ u ∈ enc x, u.oneCell' = true) (xs : List α) : ∀ u ∈ xs.flatMap enc, u.oneCell' = true := by
  intro u hu
  obtain ⟨x, _, hx⟩ := List.mem_flatMap.1 hu
  exact h x u hx
/-- a block that holds just the list -/
theorem Sl.block {b : Nat} {cs : Array Value} {t : TypeId} {cap : Nat} (he : ∀ x, (enc x).length = size) (h : W.heap[b]? = some (.cells cs t (0, 0))) (hx : ∀ (j : Nat) (u : Value), (xs.flatMap enc)[j]? = some u → cs[j]? = some u) (h1 : xs.length ≤ cap) (h2 : cap ≤ maxLen) (hS : S b) : Sl S W (.slice (some ⟨b, 0, none⟩) xs.length cap) size enc xs := by
  refine .inr ⟨_, cap, rfl, fun _ => ⟨(Array.getElem?_eq_some_iff.1 h).1, hS⟩, h1, h2, .of_flat he fun j u hu => ?_⟩
  have := hx j u hu
  unfold Addr.add
  split <;> simp_all [World.cell?]
theorem Sl.full {b n : Nat} {t : TypeId} (he : ∀ x, (enc x).length = size) (h : W.heap[b]? = some (.cells (xs.flatMap enc).toArray t (0, 0))) (hn : n = xs.length) (h2 : n ≤ maxLen) (hS : S b) : Sl S W (.slice (some ⟨b, 0, none⟩) n n) size enc xs := by
  subst hn
  refine Sl.block he h (fun j u hu => ?_) (Nat.le_refl _) h2 hS
  rw [List.getElem?_toArray]
  exact hu
end

theorem cell_below {W W' : World} {p : Addr} {v : Value} (h : W.cell? p = some v) (hb : Below W.heap.size W W') : W'.cell? p = some v :=
  (hb.cell (World.block_lt_of_cell? W p h)).trans h
theorem owns_keep {W W' : World} {base : Nat} {e : TypeId} {size : Nat} {v : Value} {n : Nat} {xs : List Value} (h : W.ownsRow base e size v n xs) (hk : ∀ k, v.ownBlock = some k → W'.heap[k]? = W.heap[k]?) : W'.ownsRow base e size v n xs := by
  refine ⟨h.1, ?_⟩
  rcases h.2 with hn | ⟨g, cap, cur, rfl, hb, hg, rest⟩
  · exact .inl hn
  · exact .inr ⟨g, cap, cur, rfl, hb, (hk g rfl).trans hg, rest⟩
theorem owns_lower {W : World} {base base' : Nat} {e : TypeId} {size : Nat} {v : Value} {n : Nat} {xs : List Value} (h : W.ownsRow base e size v n xs) (hb : base' ≤ base) : W.ownsRow base' e size v n xs := by
  refine ⟨h.1, ?_⟩
  rcases h.2 with hn | ⟨g, cap, cur, rfl, hg, rest⟩
  · exact .inl hn
  · exact .inr ⟨g, cap, cur, rfl, by omega, rest⟩
theorem owns_slice {W : World} {base : Nat} {e : TypeId} {size : Nat} {v : Value} {n : Nat} {xs : List Value} (h : W.ownsRow base e size v n xs) : ∃ p c, v = .slice p n c := by
  rcases h.2 with ⟨rfl, rfl⟩ | ⟨g, cap, cur, rfl, _⟩
  · exact ⟨_, _, rfl⟩
  · exact ⟨_, _, rfl⟩
theorem set_block {W : World} {b i : Nat} {cs : Array Value} {t : TypeId} (v : Value) (h : W.heap[b]? = some (.cells cs t (0, 0))) : (W.setCell ⟨b, i, none⟩ v).heap[b]? = some (.cells (cs.setIfInBounds i v) t (0, 0)) := by
  obtain ⟨hlt, hk⟩ := Array.getElem?_eq_some_iff.1 h
  show (W.heap.modify b _)[b]? = _
  rw [Array.getElem?_eq_getElem (by rw [Array.size_modify]; exact hlt), Array.getElem_modify_self, hk]
  rfl
theorem frozen_block {W : World} {b : Nat} {cs : Array Value} {t : TypeId} (h : W.heap[b]? = some (.cells cs t (0, 0))) (i : Nat) : W.frozen? ⟨b, i, none⟩ = false := by
  simp [World.frozen?, h]
theorem cell_block {W : World} {b : Nat} {cs : Array Value} {t : TypeId} (h : W.heap[b]? = some (.cells cs t (0, 0))) (i : Nat) : W.cell? ⟨b, i, none⟩ = cs[i]? := by
  simp [World.cell?, h]
theorem lt_block {W : World} {b : Nat} {o : Obj} (h : W.heap[b]? = some o) : b < W.heap.size := (Array.getElem?_eq_some_iff.1 h).1
theorem set_other {W : World} {b c i : Nat} {o : Option Obj} (v : Value) (h : W.heap[b]? = o) (hn : b ≠ c) : (W.setCell ⟨c, i, none⟩ v).heap[b]? = o := (Below.heap_setCell W _ v b hn).trans h
theorem bodyPost_gen {P : Program} {f : Func} {R : Ending → World → Prop} {e : Exit} {a : Act} {W : World} (I : World → Prop) (hI : I W) (h : ∀ W', I W' → bodyPost P f R e a W') : bodyPost P f R e a W := h W hI
theorem code_gen {P : Program} {c : Code} {Q : Exit → Act → World → Prop} {a : Act} {W : World} (I : World → Prop) (hI : I W) (h : ∀ W', I W' → c.wp P Q a W') : c.wp P Q a W := h W hI
theorem calls_gen {P : Program} {f : FuncId} {args : Array Value} {R : Ending → World → Prop} {W : World} (I : World → Prop) (hI : I W) (h : ∀ W', I W' → Calls P f args W' R) : Calls P f args W R := h W hI
theorem list_gen {P : Program} {ops : Array Oper} {Q : Exit → Act → World → Prop} {l : List Oper} {a : Act} {W : World} (I : World → Prop) (hI : I W) (h : ∀ W', I W' → wpList P ops Q l a W') : wpList P ops Q l a W := h W hI

theorem getElem?_set' (cs : Array Value) (i j : Nat) (v : Value) : (cs.setIfInBounds i v)[j]? = if i = j then (if i < cs.size then some v else none) else cs[j]? := by
  rw [Array.getElem?_setIfInBounds]
/-- 'copy' between slices of any elements, the target a row that is known whole -/
theorem run_copy_rows {P : Program} (w : World) (dT sT ty elem : TypeId) (g dLen dCap : Nat) (a : Addr) (sLen sCap : Nat) (cur : Array Value) (t : TypeId) (cs : List Value) (size n : Nat)
    (hu : P.underlying dT = some (.slice elem)) (hs : (P.info? elem).map (·.size) = some size)
    (hg : w.heap[g]? = some (.cells cur t (0, 0))) (hm : Nat.min sLen dLen = n) (hn : cs.length = n * size)
    (hsrc : ∀ j v, cs[j]? = some v → w.cell? (a.add j) = some v) (hfit : cs.length ≤ cur.size) (h1 : ∀ v ∈ cs, v.oneCell' = true) :
    (Builtin.copy_ #[dT, sT] ty #[.slice (some ⟨g, 0, none⟩) dLen dCap, .slice (some a) sLen sCap]).run P w =
      .ok (goInt n) (w.setRow g (cs ++ cur.toList.drop cs.length).toArray) := by
  subst hm
  have hf := run_firstCells_some (P := P) w size (Nat.min sLen dLen) a sLen sCap cs hn hsrc
  have hst := run_storeCells_at P g 0 t cs 0 cur w hg (by simpa using hfit) h1
  simp only [Nat.zero_add, List.take_zero, List.nil_append] at hst
  cases hq : P.info? elem with
  | none => simp [hq] at hs
  | some i =>
    have hi : i.size = size := by simpa [hq] using hs
    simp [Builtin.copy_, run_underlying hu, Builtin.lenOf, sizeOf, typeInfo, hq, hi, hf, hst]

end Go.Proofs.Ytfaafndaelmbfaa
