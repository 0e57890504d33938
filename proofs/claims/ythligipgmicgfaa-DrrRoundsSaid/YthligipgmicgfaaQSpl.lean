/- spoil: labels are turned. -/
import Derived.Test.YthligipgmicgfaaQRefP
namespace Go.Proofs.Ythligipgmicgfaa
open Go.RowKit
attribute [local go_sem] Oper.semAt_some

def KeptTo (v : Value) (w : World) (e : Ending) (w' : World) : Prop := e = .returned (.tuple #[]) ∧ Kept (fun k => v.ownBlock = some k) w w'
/-- each block is of the shape it was -/
def Shapes (w w' : World) : Prop := ∀ b cs t, Box w b cs t → ∃ cs', Box w' b cs' t ∧ cs'.size = cs.size
theorem Shapes.refl (w : World) : Shapes w w := fun _ cs _ h => ⟨cs, h, rfl⟩
theorem Shapes.set {w W : World} (h : Shapes w W) (b i : Nat) (v : Value) : Shapes w (W.setCell ⟨b, i, none⟩ v) := fun b' cs t hb => by
  obtain ⟨cs', h1, h2⟩ := h b' cs t hb
  by_cases e : b' = b
  · subst e
    exact ⟨_, h1.set v, by rw [Array.size_setIfInBounds]; exact h2⟩
  · exact ⟨cs', h1.other v e, h2⟩
/-- labels that may be written, whatever they hold -/
def Wr (W : World) (v : Value) (n : Nat) : Prop := 0 < n → ∃ b c cs t, v = .slice (some ⟨b, 0, none⟩) n c ∧ Box W b cs t ∧ n * 2 ≤ cs.size
theorem Wr.shapes {W W' : World} {v : Value} {n : Nat} (h : Wr W v n) (hs : Shapes W W') : Wr W' v n := fun hp => by
  obtain ⟨b, c, cs, t, e, hb, hn⟩ := h hp
  obtain ⟨cs', h1, h2⟩ := hs b cs t hb
  exact ⟨b, c, cs', t, e, h1, by omega⟩
def SpTo (v : Value) (n : Nat) (w : World) (e : Ending) (w' : World) : Prop := e = .returned (.tuple #[]) ∧ Kept (fun k => 0 < n ∧ v.ownBlock = some k) w w' ∧ Shapes w w'
set_option maxRecDepth 100000 in
set_option maxHeartbeats 1000000 in
theorem spoil_nil {p : Option Addr} {c : Nat} {w : World} : Calls Try.prog 21 #[.slice p 0 c] w (SpTo (.slice p 0 c) 0 w) := by
  go_enter Try.func21, Try.ntmps21
  go_wp2
  go_loop [2] (fun i => i = .int .i64 0) (fun _ => 0)
  · exact rfl
  subst hrel
  go_wp2
  go_end0
  exact ⟨rfl, Kept.refl _ _, Shapes.refl _⟩
set_option maxRecDepth 100000 in
set_option maxHeartbeats 1000000 in
theorem spoil_some {b n c : Nat} {cs : Array Value} {t : TypeId} {w : World} (hb : Box w b cs t) (hn : n * 2 ≤ cs.size) (hc : n ≤ 4611686018427387904) : Calls Try.prog 21 #[.slice (some ⟨b, 0, none⟩) n c] w (SpTo (.slice (some ⟨b, 0, none⟩) n c) n w) := by
  obtain ⟨m, hm⟩ : ∃ m, cs.size = m := ⟨_, rfl⟩
  have hn2 : n * 2 ≤ m := by omega
  have HM := Lib.hid hm
  have HB := Lib.hid hb
  clear hm hn hb
  go_enter Try.func21, Try.ntmps21
  go_wp2
  go_loopw [2] (fun i wr => ∃ (k : Nat) (cs' : Array Value), i = .int .i64 k ∧ k ≤ n ∧ Box wr b cs' t ∧ Hid (cs'.size = m) ∧ Kept (fun k => 0 < n ∧ k = b) w wr ∧ Shapes w wr) (fun i _ => n - (intOf i).toNat)
  · exact ⟨0, cs, rfl, by omega, HB.out, HM, Kept.refl _ _, Shapes.refl _⟩
  obtain ⟨k, cs', rfl, hk, hbx, hs, hK, hSh⟩ := hrel
  have HSH := Lib.hid hSh
  clear hSh
  have HBX := Lib.hid hbx
  have HKK := Lib.hid hK
  by_cases hlt : k < n
  · have hp : 0 < n := by omega
    have hk1 : k * 2 < cs'.size := by have := hs.out; omega
    have hk2 : k * 2 + 1 < cs'.size := by have := hs.out; omega
    obtain ⟨v0, c0⟩ : ∃ v0, wr.cell? ⟨b, k * 2, none⟩ = some v0 := ⟨cs'[k * 2], by rw [cell_block hbx, Array.getElem?_eq_getElem hk1]⟩
    obtain ⟨v1, c1⟩ : ∃ v1, wr.cell? ⟨b, k * 2 + 1, none⟩ = some v1 := ⟨cs'[k * 2 + 1], by rw [cell_block hbx, Array.getElem?_eq_getElem hk2]⟩
    have z0 := hbx.rd.2
    clear hbx hK hk1 hk2
    go_wp2
    exact ⟨⟨k + 1, _, by simp, by omega, (HBX.out.set _).set _, Lib.hid (by rw [Array.size_setIfInBounds, Array.size_setIfInBounds]; exact hs.out), (HKK.out.setCell _ _ (fun _ => ⟨hp, rfl⟩)).setCell _ _ (fun _ => ⟨hp, rfl⟩), (HSH.out.set _ _ _).set _ _ _⟩, by simp [intOf]; omega⟩
  · obtain rfl : k = n := by omega
    clear hbx hK
    go_wp2
    go_end0
    exact ⟨rfl, HKK.out.mono (fun i _ e => ⟨e.1, by rw [e.2]; rfl⟩), HSH.out⟩
theorem spoil_wr {p : Option Addr} {n c : Nat} {w : World} (h : Wr w (.slice p n c) n) (hn : n ≤ 4611686018427387904) : Calls Try.prog 21 #[.slice p n c] w (SpTo (.slice p n c) n w) := by
  by_cases hp : 0 < n
  · obtain ⟨b, c', cs, t, e, hb, hs⟩ := h hp
    simp only [Value.slice.injEq, true_and] at e
    obtain ⟨rfl, rfl⟩ := e
    exact spoil_some hb hs hn
  · obtain rfl : n = 0 := by omega
    exact spoil_nil
theorem spoil_any {S : Nat → Prop} {v : Value} {ls : List Lbl} {w : World} (h : Lw S w v ls) : Calls Try.prog 21 #[v] w (KeptTo v w) := by
  obtain ⟨p, c, rfl⟩ := h.lb.slice
  refine (spoil_wr h.wr (by have := h.lb.sz; omega)).mono ?_
  rintro e w' ⟨rfl, h1, h2⟩
  exact ⟨rfl, h1.mono (fun k _ e => e.2)⟩

/-- how many labels acts bear -/
def labs (l : List (Value × It)) : Nat := (l.map fun r => r.2.ls.length).sum
theorem labs_snoc (l : List (Value × It)) (r : Value × It) : labs (l ++ [r]) = labs l + r.2.ls.length := by
  unfold labs
  rw [List.map_append, List.sum_append]
  simp
theorem labs_mem {l : List (Value × It)} {r : Value × It} (h : r ∈ l) : r.2.ls.length ≤ labs l := by
  induction l with
  | nil => cases h
  | cons x l ih =>
    unfold labs at ih ⊢
    rw [List.map_cons, List.sum_cons]
    rcases List.mem_cons.1 h with rfl | h
    · omega
    · have := ih h; omega
abbrev encA (x : Bool × (Value × It)) : List Value := [.bool x.1, x.2.1, .int .i64 x.2.2.at_, .int .i64 x.2.2.vl, .int .i64 x.2.2.cost]
theorem encA_len (x : Bool × (Value × It)) : (encA x).length = 5 := rfl
/-- what Great says -/
def greatB (l : List (Value × It)) : Bool := decide (200 < l.length ∨ 1000 < labs l)
theorem greatB_no {l : List (Value × It)} (h : greatB l = false) : l.length ≤ 200 ∧ labs l ≤ 1000 := by
  have := of_decide_eq_false h
  omega
set_option maxRecDepth 100000 in
set_option maxHeartbeats 1000000 in
theorem great_any {S : Nat → Prop} {v : Value} {xs : List (Bool × (Value × It))} {w : World} (h : Sl S w v 5 encA xs) (hl : ∀ x ∈ xs, ∃ p c, x.2.1 = .slice p x.2.2.ls.length c) : Calls Try.prog 17 #[v] w (Is (.bool (greatB (xs.map Prod.snd))) w) := by
  obtain ⟨p, c, rfl, _, hc⟩ := h.len
  by_cases hbig : 200 < xs.length
  · have hb : (200 : Int) < xs.length := by omega
    have HE : Hid (greatB (xs.map Prod.snd) = true) := Lib.hid (decide_eq_true (.inl (by rw [List.length_map]; exact hbig)))
    clear h hl
    go_enter Try.func17, Try.ntmps17
    go_wp2
    go_ret
    exact ⟨by rw [HE.out]; rfl, rfl⟩
  · have HS := Lib.hid h
    have HL := Lib.hid hl
    have hb : (xs.length : Int) ≤ 200 := by omega
    clear h hl hc
    go_enter Try.func17, Try.ntmps17
    go_wp2
    go_loop [3, 4] (fun s i => ∃ k : Nat, s = .int .i64 (labs ((xs.map Prod.snd).take k)) ∧ i = .int .i64 k ∧ k ≤ xs.length ∧ labs ((xs.map Prod.snd).take k) ≤ 1000 * k) (fun _ i => xs.length - (intOf i).toNat)
    · exact ⟨0, rfl, rfl, by omega, by simp [labs]⟩
    obtain ⟨k, rfl, rfl, hk, hs⟩ := hrel
    by_cases hlt : k < xs.length
    · obtain ⟨x, hx⟩ : ∃ x, xs[k]? = some x := ⟨_, List.getElem?_eq_getElem hlt⟩
      obtain ⟨a, rfl, _, _, hM⟩ := HS.out.at hx
      obtain ⟨p1, c1, he⟩ := HL.out x (List.mem_of_getElem? hx)
      have x1 : w.cell? ⟨(a.add (k * 5)).block, (a.add (k * 5)).off + 1, none⟩ = some x.2.1 := hM k x hx 1 _ rfl
      rw [he] at x1
      have hts : labs ((xs.map Prod.snd).take (k + 1)) = labs ((xs.map Prod.snd).take k) + x.2.2.ls.length := by
        rw [take_snoc (x := x.2) (by rw [List.getElem?_map, hx]; rfl), labs_snoc]
      obtain ⟨s0, hs0⟩ : ∃ s, labs ((xs.map Prod.snd).take k) = s := ⟨_, rfl⟩
      rw [hs0] at hts hs ⊢
      have HTS := Lib.hid hts
      have hkk : (k : Int) < (xs.length : Int) := by omega
      have HXM := Lib.hid (List.mem_map_of_mem (f := Prod.snd) (List.mem_of_getElem? hx))
      clear hx hts hs0 hM he
      by_cases hg : 1000 < x.2.2.ls.length
      · have hg1 : (1000 : Int) < x.2.2.ls.length := by omega
        have HE : Hid (greatB (xs.map Prod.snd) = true) := Lib.hid (decide_eq_true (.inr (by have := labs_mem HXM.out; omega)))
        go_wp2
        go_ret
        exact ⟨by rw [HE.out]; rfl, rfl⟩
      · have hg1 : ¬ (1000 : Int) < x.2.2.ls.length := by omega
        have hg2 : (x.2.2.ls.length : Int) ≤ 1000 := by omega
        have hs1 : (s0 : Int) ≤ 1000 * k := by omega
        go_wp2
        exact ⟨⟨k + 1, by rw [HTS.out]; simp, by simp, by omega, by rw [HTS.out]; omega⟩, by simp [intOf]; omega⟩
    · obtain rfl : k = xs.length := by omega
      rw [show (xs.map Prod.snd).take xs.length = xs.map Prod.snd from List.take_of_length_le (by simp)] at hs ⊢
      obtain ⟨s0, hs0⟩ : ∃ s, labs (xs.map Prod.snd) = s := ⟨_, rfl⟩
      rw [hs0] at hs ⊢
      have HS0 := Lib.hid hs0
      clear hs0
      go_wp2
      go_ret
      refine ⟨?_, rfl⟩
      unfold greatB
      rw [HS0.out, List.length_map]
      have hbn : ¬ 200 < xs.length := by omega
      simp only [hbn, false_or]
      show Ending.returned (.bool (decide (1000 < (s0 : Int)))) = _
      by_cases h1 : 1000 < s0
      · rw [decide_eq_true h1, decide_eq_true (by omega)]
      · rw [decide_eq_false h1, decide_eq_false (by omega)]
end Go.Proofs.Ythligipgmicgfaa
