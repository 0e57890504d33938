/- (*Queue).Pop -/
import Derived.Test.YthligipgmicgfaaQQue
namespace Go.Proofs.Ythligipgmicgfaa
open Go.RowKit
attribute [local go_sem] Oper.semAt_some

/-- what a variable of an item holds at first -/
abbrev z4 : Array Value := #[.slice none 0 0, .int .i64 0, .int .i64 0, .int .i64 0]
abbrev put4 (W : World) (b : Nat) (v0 v1 v2 v3 : Value) : World := (((W.setCell ⟨b, 0, none⟩ v0).setCell ⟨b, 1, none⟩ v1).setCell ⟨b, 2, none⟩ v2).setCell ⟨b, 3, none⟩ v3
theorem Box.put4 {W : World} {b : Nat} {a0 a1 a2 a3 : Value} {t : TypeId} (h : Box W b #[a0, a1, a2, a3] t) (v0 v1 v2 v3 : Value) : Box (put4 W b v0 v1 v2 v3) b #[v0, v1, v2, v3] t :=
  (((h.set (i := 0) v0).set (i := 1) v1).set (i := 2) v2).set (i := 3) v3
theorem Box.far4 {W : World} {b c : Nat} {cs : Array Value} {t : TypeId} (h : Box W b cs t) (hn : b ≠ c) (v0 v1 v2 v3 : Value) : Box (Go.Proofs.Ythligipgmicgfaa.put4 W c v0 v1 v2 v3) b cs t :=
  (((h.other v0 hn).other v1 hn).other v2 hn).other v3 hn
theorem Kept.put4 {F : Nat → Prop} {a W : World} (h : Kept F a W) {b : Nat} (hb : b < a.heap.size → F b) (v0 v1 v2 v3 : Value) : Kept F a (Go.Proofs.Ythligipgmicgfaa.put4 W b v0 v1 v2 v3) :=
  (((h.setCell _ v0 hb).setCell _ v1 hb).setCell _ v2 hb).setCell _ v3 hb
theorem QAt.tight {S : Nat → Prop} {p : Nat} {W : World} {xs : List It} (h : QAt S p W xs) : QAt (fun k => S k ∧ k < W.heap.size) p W xs := by
  obtain ⟨v, h1, h2, h3⟩ := h
  exact ⟨v, h1, h2.mono (fun k h s => ⟨s, h⟩), fun h => h3 h.1⟩
theorem QAt.not {S : Nat → Prop} {p : Nat} {W : World} {xs : List It} (h : QAt S p W xs) : ¬ S p := by
  obtain ⟨v, h1, h2, h3⟩ := h
  exact h3
def PopTo (S : Nat → Prop) (p : Nat) (x : It) (xs : List It) (w : World) (e : Ending) (w' : World) : Prop := ∃ lv, e = .returned (.tuple #[iv lv x, .bool true]) ∧ Lw (fun k => w.heap.size ≤ k) w' lv x.ls ∧ QAt S p w' xs ∧ Kept (fun k => k = p) w w'
theorem IA.tail {S : Nat → Prop} {W : World} {a : Addr} {x : It} {xs : List It} {rs : List (Value × It)} (h : IA S W a (x :: xs) rs) : IA S W (a.add 4) xs rs.tail := by
  match rs, h with
  | [], h => cases h.map
  | r :: rs, h =>
    have hm := h.map
    rw [List.map_cons, List.cons.injEq] at hm
    refine ⟨hm.2, fun hp => by rw [add_block']; exact h.blk (by simp), fun i y hy j u hu => ?_, fun r hr => h.lab r (List.mem_cons_of_mem _ hr)⟩
    have := h.row (i + 1) y (by simpa using hy) j u hu
    rw [Addr.add_add] at this ⊢
    rw [Addr.add_add, show 4 + (i * 4 + j) = (i + 1) * 4 + j from by omega]
    exact this
set_option maxRecDepth 100000 in
set_option maxHeartbeats 1000000 in
theorem pop_none {q : Value} {w : World} (hf : Calls Try.prog 22 #[q] (w.alloc (.cells z4 32)) (FirstTo none (w.alloc (.cells z4 32)))) : Calls Try.prog 14 #[q] w (FirstTo none w) := by
  have HF := Lib.hid hf
  have b0 := Box.new w z4 32
  have hb0 : Below w.heap.size w (w.alloc (.cells z4 32)) := (Below.refl _ w).alloc (Nat.le_refl _) _
  clear hf
  go_enter Try.func14, Try.ntmps14
  go_wp2_with fail
  refine HF.out.mono ?_
  rintro e w1 ⟨rfl, hb⟩
  have b1 := b0.below hb
  have hB := below_then hb0 hb
  have hlt := b1.lt
  obtain ⟨c1, z1⟩ := b1.rd
  clear b0 hb0 hb
  go_wp2
  refine bodyPost_gen (fun W' => Box W' w.heap.size z4 32 ∧ Kept (fun k => k = w.heap.size) w1 W') ⟨(b1.put4 _ _ _ _).alloc _, ((Kept.refl _ w1).put4 (by simp) _ _ _ _).alloc _⟩ ?_
  rintro W' ⟨g1, g2⟩
  obtain ⟨d1, y1⟩ := g1.rd
  refine bodyPost_ret (v := .tuple #[iv (.slice none 0 0) ⟨[], 0, 0, 0⟩, .bool false]) ?_ rfl ?_
  · simp [results, Try.results14, go_sem, d1]
  · exact ⟨rfl, hB.trans (g2.below (fun k h => by omega) hB.size)⟩
set_option maxRecDepth 100000 in
set_option maxHeartbeats 1000000 in
theorem pop_some {S : Nat → Prop} {p : Nat} {w : World} {x : It} {xs : List It} (h : QAt S p w (x :: xs)) : Calls Try.prog 14 #[qv p] w (PopTo S p x xs w) := by
  have hb0 : Below w.heap.size w (w.alloc (.cells z4 32)) := (Below.refl _ w).alloc (Nat.le_refl _) _
  have hSp := h.not
  replace h := h.tight
  obtain ⟨T, hT⟩ : ∃ T, T = fun k => S k ∧ k < w.heap.size := ⟨_, rfl⟩
  rw [← hT] at h
  have HT := Lib.hid hT
  clear hT
  have HF := Lib.hid (first_some (h.below hb0))
  have b0 := Box.new w z4 32
  have hpl := h.lt
  have HQ := Lib.hid (h.below hb0)
  obtain ⟨W0, hW⟩ : ∃ W, (w.alloc (.cells z4 32)) = W := ⟨_, rfl⟩
  rw [hW] at HF b0 HQ hb0
  have HW := Lib.hid hW
  have HB0 := Lib.hid hb0
  have hW0 : w.heap.size < W0.heap.size := by rw [← hW]; simp
  clear h hW hb0
  go_enter Try.func14, Try.ntmps14
  go_wp2_with fail
  rw [HW.out]
  refine HF.out.mono ?_
  rintro e w1 ⟨l1, rfl, hl1, hb⟩
  obtain ⟨p1, q1, rfl⟩ := hl1.lb.slice
  have b1 := b0.below hb
  have hB := below_then HB0.out hb
  have hs1 := hb.size
  obtain ⟨v, g1, g2, g3⟩ := HQ.out.below hb
  rcases g2 with ⟨_, hx⟩ | ⟨a, cap, rs, rfl, k1, k2, k3⟩
  · cases hx
  obtain ⟨c1, z1⟩ := b1.rd
  obtain ⟨c2, z2⟩ := g1.rd
  have hlt := b1.lt
  have hplt := g1.lt
  have hca : xs.length + 1 ≤ cap := k1
  have hcb : cap ≤ 9223372036854775807 := k2
  have hp0 : (0 : Int) ≤ xs.length := by omega
  simp only [List.length_cons] at c2
  have HL1 := Lib.hid hl1
  have HK3 := Lib.hid k3
  clear b0 hb HB0 HF HQ HW hl1 k1 k2 k3
  go_wp2
  case' inl =>
    have ha4 : Its T w1 (.slice (some a) xs.length 0) xs := by
      subst h
      obtain rfl : xs = [] := List.eq_nil_of_length_eq_zero (by omega)
      exact .inr ⟨a, 0, [], rfl, by simp, by simp, rfl, fun hp => by simp at hp, fun i x hx => by simp at hx, fun r hr => by cases hr⟩
  case' inr =>
    have ha4 : Its T w1 (.slice (some ⟨a.block, a.off + 4, none⟩) xs.length (cap - 1)) xs := .inr ⟨_, _, _, rfl, by omega, by unfold maxLen; omega, HK3.out.tail⟩
  all_goals
    have HA4 := Lib.hid ha4
    clear ha4
    refine bodyPost_gen (fun W' => Box W' w.heap.size #[.slice p1 x.ls.length q1, .int .i64 x.at_, .int .i64 x.vl, .int .i64 x.cost] 32 ∧ (∃ v, Box W' p #[v, .bool true] 55 ∧ Its T w1 v xs) ∧ Kept (fun k => k = w.heap.size ∨ k = p) w1 W') ⟨((b1.other _ (by omega)).put4 _ _ _ _).alloc _, ⟨_, ((g1.set _).far4 (by omega) _ _ _ _).alloc _, HA4.out⟩, (((Kept.refl _ w1).setCell _ _ (by simp)).put4 (by simp) _ _ _ _).alloc _⟩ ?_
    rintro W' ⟨f1, ⟨v, f2, f3⟩, f4⟩
    obtain ⟨d1, y1⟩ := f1.rd
    refine bodyPost_ret (v := .tuple #[iv (.slice p1 x.ls.length q1) x, .bool true]) ?_ rfl ?_
    · simp [results, Try.results14, go_sem, d1]
    · have hf : ∀ k, k < w1.heap.size → T k → ¬ (k = w.heap.size ∨ k = p) := fun k _ hk => by
        rw [HT.out] at hk
        rintro (e | e)
        · omega
        · exact hSp (e ▸ hk.1)
      refine ⟨_, rfl, (HL1.out.kept f4 (fun k _ h => by omega)).mono (fun k _ h => by omega), ⟨v, f2, (f3.kept f4 hf).mono (fun k _ h => by rw [HT.out] at h; exact h.1), hSp⟩, ?_⟩
      exact (Kept.first hB (f4.mono (G := fun k => k = w.heap.size ∨ k = p) (fun _ _ h => h))).mono (fun k hk h => by rcases h with h | h; omega; exact h)
end Go.Proofs.Ythligipgmicgfaa
