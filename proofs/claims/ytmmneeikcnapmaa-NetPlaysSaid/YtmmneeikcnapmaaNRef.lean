/- Equal names, messages, lists of messages are found the same; what is big. -/
import Derived.Test.YtmmneeikcnapmaaNBas
import Derived.Test.YtmmneeikcnapmaaQLast
import Derived.Laws.Cover2
import Derived.Laws.Tables
namespace Go.Proofs.Ytmmneeikcnapmaa
open Go.RowKit
attribute [local go_sem] Oper.semAt_some

set_option maxRecDepth 100000 in
set_option maxHeartbeats 1000000 in
theorem sameNames_any {S T : Nat → Prop} {a b : Value} {xs : List ByteArray} {w : World} (h1 : Sl S w a 1 encS xs) (h2 : Sl T w b 1 encS xs) (hn : xs.length ≤ 100000) :
    Calls Try.prog 24 #[a, b] w (Tells (.bool true) w) := by
  obtain ⟨p1, c1, rfl, _, hc1⟩ := h1.len
  obtain ⟨p2, c2, rfl, _, _⟩ := h2.len
  have H1 := Lib.hid h1
  have H2 := Lib.hid h2
  clear h1 h2 hc1
  go_enter Try.func24, Try.ntmps24
  go_wp2_with fail
  go_loopw [5] (fun i wr => ∃ k : Nat, i = .int .i64 k ∧ k ≤ xs.length ∧ Below w.heap.size w wr) (fun i _ => xs.length - (intOf i).toNat)
  · exact ⟨0, rfl, by omega, Below.refl _ _⟩
  obtain ⟨k, rfl, hk, hB⟩ := hrel
  by_cases hlt : k < xs.length
  · obtain ⟨x, hx⟩ : ∃ x, xs[k]? = some x := ⟨_, List.getElem?_eq_getElem hlt⟩
    obtain ⟨a1, rfl, _, _, g1⟩ := (H1.out.below hB).at hx
    obtain ⟨a2, rfl, _, _, g2⟩ := (H2.out.below hB).at hx
    have x0 := g1 k x hx 0 _ rfl
    have y0 := g2 k x hx 0 _ rfl
    rw [Nat.mul_one, Addr.add_zero'] at x0 y0
    have hkk : (k : Int) < (xs.length : Int) := by omega
    clear g1 g2 hx
    go_wp2_with fail
    refine still_all (by kernel_rfl) (by kernel_rfl) ?_
    repeat still_step
    refine wpStill_nil ?_
    clear x0 y0
    go_wp2_with fail
    exact ⟨⟨k + 1, by simp, by omega, hB.drew⟩, by simp [intOf]; omega⟩
  · obtain rfl : k = xs.length := by omega
    go_wp2_with fail
    go_ret
    exact ⟨rfl, hB⟩
set_option maxRecDepth 100000 in
set_option maxHeartbeats 1000000 in
theorem same_any {S T : Nat → Prop} {x y : Mr} {w : World} (h1 : Mo S w x) (h2 : Mo T w y) (he : y.m = x.m) (hf : Few x.m) :
    Calls Try.prog 18 #[mv x, mv y] w (Tells (.bool true) w) := by
  obtain ⟨kv, sv, m⟩ := x
  obtain ⟨kv2, sv2, m2⟩ := y
  obtain rfl : m2 = m := he
  have hb0 : Below w.heap.size w ((w.alloc (.cells (mc ⟨kv, sv, m2⟩) 33)).alloc (.cells (mc ⟨kv2, sv2, m2⟩) 33)) := ((Below.refl _ w).alloc (Nat.le_refl _) _).alloc (by simp) _
  have b0 := (Box.new w (mc ⟨kv, sv, m2⟩) 33).alloc (.cells (mc ⟨kv2, sv2, m2⟩) 33)
  have b1 := Box.new (w.alloc (.cells (mc ⟨kv, sv, m2⟩) 33)) (mc ⟨kv2, sv2, m2⟩) 33
  rw [World.size_alloc] at b1
  have HC := Lib.hid (sameNames_any (h1.k.below hb0) (h2.k.below hb0) (by have := hf.1; omega))
  have s1 := h1.s.below hb0
  have s2 := h2.s.below hb0
  obtain ⟨p1, c1, e1, _, _⟩ := s1.len
  obtain ⟨p2, c2, e2, _, _⟩ := s2.len
  obtain ⟨p3, c3, e3, _, _⟩ := h1.k.len
  obtain ⟨p4, c4, e4, _, _⟩ := h2.k.len
  simp only at e1 e2 e3 e4
  subst e1 e2 e3 e4
  have S1 := Lib.hid s1
  have S2 := Lib.hid s2
  have HB := Lib.hid hb0
  have hn : m2.ss.length ≤ 50 := hf.2
  clear h1 h2 s1 s2 hf
  obtain ⟨W, hW⟩ : ∃ W, (w.alloc (.cells (mc ⟨.slice p3 m2.ks.length c3, .slice p1 m2.ss.length c1, m2⟩) 33)).alloc (.cells (mc ⟨.slice p4 m2.ks.length c4, .slice p2 m2.ss.length c2, m2⟩) 33) = W := ⟨_, rfl⟩
  rw [hW] at HC HB S1 S2 b0 b1
  have HW := Lib.hid hW
  clear hW hb0
  obtain ⟨b, hb⟩ : ∃ b, b = w.heap.size := ⟨_, rfl⟩
  rw [← hb] at b0 b1
  go_enter Try.func18, Try.ntmps18
  go_wp2_with fail
  rw [HW.out]
  simp only [← hb]
  obtain ⟨c0, f0⟩ := b0.rd
  obtain ⟨d0, g0⟩ := b1.rd
  clear hb
  go_wp2_with fail
  refine HC.out.mono ?_
  rintro e w1 ⟨rfl, hb⟩
  have HB1 := Lib.hid (below_then HB.out hb)
  have S1' := Lib.hid (S1.out.below hb)
  have S2' := Lib.hid (S2.out.below hb)
  have b0' := b0.below hb
  have b1' := b1.below hb
  clear c0 f0 d0 g0 b0 b1 hb S1 S2 HC HW HB
  obtain ⟨c0, f0⟩ := b0'.rd
  obtain ⟨d0, g0⟩ := b1'.rd
  go_wp2_with fail
  go_loopw [5] (fun i wr => ∃ k : Nat, i = .int .i64 k ∧ k ≤ m2.ss.length ∧ Below w1.heap.size w1 wr) (fun i _ => m2.ss.length - (intOf i).toNat)
  · exact ⟨0, rfl, by omega, Below.refl _ _⟩
  obtain ⟨k, rfl, hk, hB⟩ := hrel
  have q0 := (b0'.below hB).rd.1
  have q1 := (b1'.below hB).rd.1
  by_cases hlt : k < m2.ss.length
  · obtain ⟨z, hz⟩ : ∃ z, m2.ss[k]? = some z := ⟨_, List.getElem?_eq_getElem hlt⟩
    obtain ⟨a1, rfl, _, _, g1⟩ := (S1'.out.below hB).at hz
    obtain ⟨a2, rfl, _, _, g2⟩ := (S2'.out.below hB).at hz
    have x0 := g1 k z hz 0 _ rfl
    have y0 := g2 k z hz 0 _ rfl
    rw [Nat.mul_one, Addr.add_zero'] at x0 y0
    have hkk : (k : Int) < (m2.ss.length : Int) := by omega
    clear g1 g2 hz
    go_wp2_with fail
    refine still_all (by kernel_rfl) (by kernel_rfl) ?_
    repeat still_step
    refine wpStill_nil ?_
    clear x0 y0
    go_wp2_with fail
    exact ⟨⟨k + 1, by simp, by omega, hB.drew⟩, by simp [intOf]; omega⟩
  · obtain rfl : k = m2.ss.length := by omega
    go_wp2_with fail
    go_ret
    exact ⟨rfl, below_then HB1.out hB⟩
/-- is a message big? -/
def BigTo (m : Ms) (w : World) (e : Ending) (w' : World) : Prop := ∃ b, e = .returned (.bool b) ∧ (b = false → Few m) ∧ Below w.heap.size w w'
set_option maxRecDepth 100000 in
set_option maxHeartbeats 1000000 in
theorem big_any {S : Nat → Prop} {x : Mr} {w : World} (h : Mo S w x) : Calls Try.prog 13 #[mv x] w (BigTo x.m w) := by
  obtain ⟨kv, sv, m⟩ := x
  obtain ⟨p1, c1, e1, _, _⟩ := h.k.len
  obtain ⟨p2, c2, e2, _, _⟩ := h.s.len
  simp only at e1 e2
  subst e1 e2
  have hb0 : Below w.heap.size w (w.alloc (.cells (mc ⟨.slice p1 m.ks.length c1, .slice p2 m.ss.length c2, m⟩) 33)) := (Below.refl _ w).alloc (Nat.le_refl _) _
  have b0 := Box.new w (mc ⟨.slice p1 m.ks.length c1, .slice p2 m.ss.length c2, m⟩) 33
  have HK := Lib.hid (h.k.below hb0)
  have HB := Lib.hid hb0
  clear h
  obtain ⟨W, hW⟩ : ∃ W, (w.alloc (.cells (mc ⟨.slice p1 m.ks.length c1, .slice p2 m.ss.length c2, m⟩) 33)) = W := ⟨_, rfl⟩
  rw [hW] at HK HB b0
  have HW := Lib.hid hW
  clear hW hb0
  obtain ⟨b, hb⟩ : ∃ b, b = w.heap.size := ⟨_, rfl⟩
  rw [← hb] at b0
  have GO : Hid (∀ b' : Bool, (b' = false → Few m) → BigTo m w (.returned (.bool b')) W) := Lib.hid fun b' h => ⟨b', rfl, h, HB.out⟩
  by_cases h1 : m.ks.length ≤ 50
  · have h1' : ¬ (50 : Int) < (m.ks.length : Int) := by omega
    by_cases h2 : m.ss.length ≤ 50
    · have h2' : ¬ (50 : Int) < (m.ss.length : Int) := by omega
      by_cases h3 : m.route.size ≤ 1000
      · have h3' : ¬ (1000 : Int) < (m.route.size : Int) := by omega
        go_enter Try.func13, Try.ntmps13
        go_wp2_with fail
        rw [HW.out]
        simp only [← hb]
        obtain ⟨c0, f0⟩ := b0.rd
        clear hb HW
        go_loopw [3, 4] (fun l i wr => ∃ (k : Nat) (z : Int), i = .int .i64 k ∧ k ≤ m.ks.length ∧ l = .int .i64 z ∧ 0 ≤ z ∧ z ≤ 1000 ∧ wr = W) (fun _ i _ => m.ks.length - (intOf i).toNat)
        · exact ⟨0, 1000, rfl, by omega, rfl, by omega, by omega, rfl⟩
        obtain ⟨k, z, rfl, hk, rfl, hz0, hz1, rfl⟩ := hrel
        by_cases hlt : k < m.ks.length
        · obtain ⟨s, hs⟩ : ∃ s, m.ks[k]? = some s := ⟨_, List.getElem?_eq_getElem hlt⟩
          obtain ⟨a1, rfl, _, _, g1⟩ := HK.out.at hs
          have x0 := g1 k s hs 0 _ rfl
          rw [Nat.mul_one, Addr.add_zero'] at x0
          have hkk : (k : Int) < (m.ks.length : Int) := by omega
          clear g1 hs
          by_cases hz : (s.size : Int) ≤ z
          · have hz' : ¬ z < (s.size : Int) := by omega
            have hw : wrap64 (z - (s.size : Int)) = z - s.size := IntWalk.wrap64_in _ ⟨by omega, by omega⟩
            go_wp2_with fail
            exact ⟨⟨k + 1, z - s.size, by simp, by omega, by simp, by omega, by omega, by trivial⟩, by simp [intOf]; omega⟩
          · have hz' : z < (s.size : Int) := by omega
            go_wp2_with fail
            go_ret
            exact GO.out true (by simp)
        · obtain rfl : k = m.ks.length := by omega
          go_wp2_with fail
          go_ret
          exact GO.out false (fun _ => ⟨h1, h2⟩)
      · have h3' : (1000 : Int) < (m.route.size : Int) := by omega
        go_enter Try.func13, Try.ntmps13
        go_wp2_with fail
        rw [HW.out]
        go_ret
        exact GO.out true (by simp)
    · have h2' : (50 : Int) < (m.ss.length : Int) := by omega
      go_enter Try.func13, Try.ntmps13
      go_wp2_with fail
      rw [HW.out]
      go_ret
      exact GO.out true (by simp)
  · have h1' : (50 : Int) < (m.ks.length : Int) := by omega
    go_enter Try.func13, Try.ntmps13
    go_wp2_with fail
    rw [HW.out]
    go_ret
    exact GO.out true (by simp)
end Go.Proofs.Ytmmneeikcnapmaa
