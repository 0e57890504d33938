/- Tell: owe's and the reference's -/
import Derived.Test.YtajflljemfgkiaaEFun
namespace Go.Proofs.Ytajflljemfgkiaa
open Go.RowKit
attribute [local go_sem] Oper.semAt_some

section
variable {α : Type} {enc : α → List Value} {size : Nat}
theorem flat_setG (he : ∀ x, (enc x).length = size) : ∀ (rs : List α) {k j : Nat} {o o' : α} {u : Value}, rs[k]? = some o → j < size → enc o' = (enc o).set j u → (rs.flatMap enc).set (k * size + j) u = (rs.set k o').flatMap enc
  | [], k, j, o, o', u, h, _, _ => by simp at h
  | r :: rs, 0, j, o, o', u, h, hj, hq => by
    obtain rfl : r = o := by simpa using h
    rw [List.flatMap_cons, List.set_cons_zero, List.flatMap_cons, hq, List.set_append_left _ _ (by rw [he]; omega)]
    congr 2
    omega
  | r :: rs, k + 1, j, o, o', u, h, hj, hq => by
    rw [List.flatMap_cons, List.set_cons_succ, List.flatMap_cons, List.set_append_right _ _ (by rw [he, Nat.succ_mul]; omega), he, ← flat_setG he rs (k := k) (by simpa using h) hj hq]
    congr 2
    rw [Nat.succ_mul]
    omega
theorem own_putG (he : ∀ x, (enc x).length = size) {W : World} {base g n c k j : Nat} {e : TypeId} {rs : List α} {o o' : α} {u : Value} (h : W.ownsRow base e size (.slice (some ⟨g, 0, none⟩) n c) n (rs.flatMap enc)) (hk : rs[k]? = some o) (hj : j < size) (hq : enc o' = (enc o).set j u) :
    (W.setCell ⟨g, k * size + j, none⟩ u).ownsRow base e size (.slice (some ⟨g, 0, none⟩) n c) n ((rs.set k o').flatMap enc) := by
  have hl : ((rs.set k o').flatMap enc).length = n * size := by rw [flat_length he, List.length_set, ← flat_length he]; exact h.1
  rcases h.2 with ⟨h', _⟩ | ⟨g', cap', cur, h', hb, hg, hnc, hcm, hcs, htake⟩
  · cases h'
  · simp only [Value.slice.injEq, Option.some.injEq, Addr.mk.injEq, and_true, true_and] at h'
    obtain ⟨rfl, rfl⟩ := h'
    refine ⟨hl, .inr ⟨g, c, cur.setIfInBounds (k * size + j) u, rfl, hb, set_block u hg, hnc, hcm, by rw [Array.size_setIfInBounds]; exact hcs, ?_⟩⟩
    rw [Array.toList_setIfInBounds, List.take_set, htake]
    exact flat_setG he rs hk hj hq
theorem own_fzG {W : World} {base g n c : Nat} {e : TypeId} {xs : List Value} (h : W.ownsRow base e size (.slice (some ⟨g, 0, none⟩) n c) n xs) (i : Nat) : W.frozen? ⟨g, i, none⟩ = false := by
  rcases h.2 with ⟨h', _⟩ | ⟨g', cap', cur, h', hb, hg, _⟩
  · cases h'
  · cases h'
    exact frozen_block hg i
theorem own_rdG (he : ∀ x, (enc x).length = size) {W : World} {base g n c k : Nat} {e : TypeId} {rs : List α} {o : α} (h : W.ownsRow base e size (.slice (some ⟨g, 0, none⟩) n c) n (rs.flatMap enc)) (hk : rs[k]? = some o) (j : Nat) (u : Value) (hj : (enc o)[j]? = some u) : W.cell? ⟨g, k * size + j, none⟩ = some u := by
  have h1 := h.cells rfl (k * size + j) u (get_flatMap he hk hj)
  have h2 : (⟨g, 0, none⟩ : Addr).add (k * size + j) = ⟨g, k * size + j, none⟩ := by
    simp [Addr.add]
    omega
  rwa [h2] at h1
theorem own_some {W : World} {base n c : Nat} {e : TypeId} {p : Option Addr} {xs : List Value} (h : W.ownsRow base e size (.slice p n c) n xs) (hn : 0 < n) : ∃ g, p = some ⟨g, 0, none⟩ := by
  rcases h.2 with ⟨_, h⟩ | ⟨g, cap, cur, h, _⟩
  · omega
  · exact ⟨g, by cases h; rfl⟩
end
def tell1 (keys : List ByteArray) (at_ : Int) (x : Al) : Al := if hasK keys x.by_ then ⟨x.rule, x.by_, x.state, x.since, at_⟩ else x
def tellL (l : List Al) (keys : List ByteArray) (at_ : Int) : List Al := l.map (tell1 keys at_)
/-- told as far as k -/
def telk (l : List Al) (keys : List ByteArray) (at_ : Int) (k : Nat) : List Al := tellL (l.take k) keys at_ ++ l.drop k
section
variable {l : List Al} {keys : List ByteArray} {at_ : Int} {k : Nat} {x : Al}
theorem telk_len (hk : k ≤ l.length) : (telk l keys at_ k).length = l.length := by
  unfold telk tellL
  rw [List.length_append, List.length_map, List.length_take, List.length_drop]
  omega
theorem telk_at (h : l[k]? = some x) : (telk l keys at_ k)[k]? = some x := by
  have hk : k < l.length := (List.getElem?_eq_some_iff.1 h).1
  unfold telk tellL
  rw [List.getElem?_append_right (by rw [List.length_map, List.length_take]; omega), List.length_map, List.length_take, List.getElem?_drop]
  rw [show k + (k - min k l.length) = k from by omega]
  exact h
theorem telk_set (h : l[k]? = some x) : (telk l keys at_ k).set k (tell1 keys at_ x) = telk l keys at_ (k + 1) := by
  have hk : k < l.length := (List.getElem?_eq_some_iff.1 h).1
  have hd : l.drop k = x :: l.drop (k + 1) := by
    rw [List.drop_eq_getElem_cons hk]
    congr 1
    have := List.getElem?_eq_getElem hk
    rw [this] at h
    exact Option.some.inj h
  unfold telk tellL
  rw [take_snoc' h, List.map_append, hd, List.set_append_right _ _ (by rw [List.length_map, List.length_take]; omega), List.length_map, List.length_take, show k - min k l.length = 0 from by omega, List.set_cons_zero, List.append_assoc]
  rfl
theorem telk_no (h : l[k]? = some x) (hn : hasK keys x.by_ = false) : telk l keys at_ (k + 1) = telk l keys at_ k := by
  rw [← telk_set h]
  have e : tell1 keys at_ x = x := by unfold tell1; rw [hn]; rfl
  rw [e]
  apply List.ext_getElem?
  intro i
  by_cases hi : k = i
  · subst hi
    have hk : k < l.length := (List.getElem?_eq_some_iff.1 h).1
    rw [List.getElem?_set_self (by rw [telk_len (by omega)]; exact hk), telk_at h]
  · rw [List.getElem?_set_ne hi]
theorem telk_zero : telk l keys at_ 0 = l := by unfold telk tellL; simp
theorem telk_full : telk l keys at_ l.length = tellL l keys at_ := by unfold telk; simp
end
theorem cnt_has (keys : List ByteArray) (s : ByteArray) : decide (0 < cnt0 keys s) = hasK keys s := by
  rw [Bool.eq_iff_iff, decide_eq_true_iff, cnt0_pos, hasK_iff]
set_option maxRecDepth 100000 in
set_option maxHeartbeats 2000000 in
theorem tell_any {S T : Nat → Prop} {v1 v2 : Value} {l : List Al} {keys : List ByteArray} {at_ : Int} {w : World} (h1 : Sl S w v1 5 encA l) (h2 : Sl T w v2 1 encS keys) (hn1 : l.length ≤ 100000) (hn2 : keys.length ≤ 100000) (hs1 : ∀ x ∈ l, x.by_.size ≤ maxLen) (hs2 : ∀ s ∈ keys, s.size ≤ maxLen) :
    Calls Try.prog 14 #[v1, v2, .int .i64 at_] w (OwnsA (tellL l keys at_) w) := by
  have HMET := Lib.hid (met_any h2 hn2 hs2)
  have H1 := Lib.hid h1
  have HS1 := Lib.hid hs1
  obtain ⟨p1, c1, rfl, -, -⟩ := h1.len
  obtain ⟨p2, c2, rfl, -, -⟩ := h2.len
  clear h1 h2 hs1 hs2
  go_enter Try.func14, Try.ntmps14
  go_wp2_with fail
  refine HMET.out.mono ?_
  rintro e w1 ⟨b, rfl, hbs, hM, hb⟩
  have HM1 := Lib.hid hM
  have HB1 := Lib.hid hb
  have HCL := Lib.hid (cloneA_any (H1.out.below hb) hn1)
  have hbl := hM.lt
  clear hb hM HMET
  go_wp2_with fail
  refine HCL.out.mono ?_
  rintro e w2 ⟨v, rfl, hown, hb⟩
  obtain ⟨p3, c3, rfl⟩ := owns_slice hown
  have HM2 := Lib.hid (HM1.out.below hb)
  have HB2 := Lib.hid (HB1.out.trans (hb.mono HB1.out.size))
  have hs12 := HB1.out.size
  have hown0 : w2.ownsRow w1.heap.size 39 5 (.slice p3 l.length c3) l.length ((telk l keys at_ 0).flatMap encA) := by rw [telk_zero]; exact hown
  clear hb hown HCL HM1 HB1
  go_wp2_with fail
  go_loopw [9, 10, 17] (fun _ _ iv_ wr => ∃ k : Nat, iv_ = .int .i64 k ∧ k ≤ l.length ∧ wr.ownsRow w1.heap.size 39 5 (.slice p3 l.length c3) l.length ((telk l keys at_ k).flatMap encA) ∧ MapAt wr b keys.length (cnt0 keys) ∧ Below w.heap.size w wr) (fun _ _ iv_ _ => l.length - (intOf iv_).toNat)
  · exact ⟨0, rfl, by omega, hown0, HM2.out, HB2.out⟩
  clear hown0
  obtain ⟨k, rfl, hk, hown, hM, hB⟩ := hrel
  have HOW := Lib.hid hown
  have HM := Lib.hid hM
  have HB := Lib.hid hB
  by_cases hlt : k < l.length
  · obtain ⟨⟨r, by_, s, si, t⟩, hx⟩ : ∃ x, l[k]? = some x := ⟨_, List.getElem?_eq_getElem hlt⟩
    obtain ⟨g, rfl⟩ := own_some hown (by omega)
    have hxx := telk_at (keys := keys) (at_ := at_) hx
    have x0 := own_rdG encA_len hown hxx 0 _ rfl
    have x1 := own_rdG encA_len hown hxx 1 _ rfl
    have x2 := own_rdG encA_len hown hxx 2 _ rfl
    have x3 := own_rdG encA_len hown hxx 3 _ rfl
    have x4 := own_rdG encA_len hown hxx 4 _ rfl
    have fz := own_fzG hown
    have hgl := (hown.lt g rfl).2
    have hgb := (hown.lt g rfl).1
    rw [Nat.add_zero] at x0
    simp only at x0 x1 x2 x3 x4
    have hkk : (k : Int) < (l.length : Int) := by omega
    have hb1 : Below wr.heap.size wr (wr.alloc (.cells (ac ⟨r, by_, s, si, t⟩) 39)) := (Below.refl _ wr).alloc (Nat.le_refl _) _
    have hlook := (hM.below hb1).look (HS1.out _ (List.mem_of_getElem? hx))
    have HB3 := Lib.hid (HB.out.trans (hb1.mono HB.out.size))
    have HM3 := Lib.hid (hM.below hb1)
    have hown3 := owns_keep hown (fun b e => hb1.block b (hown.lt b e).2)
    have HOW3 := Lib.hid hown3
    have HX := Lib.hid hx
    have hch := cnt_has keys by_
    have hfz2 := own_fzG hown3
    clear hx hxx hown hM hB hb1 hown3
    cases hhas : hasK keys by_ with
    | true =>
      rw [hhas] at hch
      have HST : Hid ((telk l keys at_ k).set k ⟨r, by_, s, si, at_⟩ = telk l keys at_ (k + 1)) := Lib.hid (by
        rw [← telk_set HX.out]
        congr 1
        unfold tell1
        rw [if_pos hhas])
      clear hhas
      go_wp2_with fail
      have hrow := own_putG (j := 4) (u := .int .i64 at_) (o' := ⟨r, by_, s, si, at_⟩) encA_len HOW.out (telk_at HX.out) (by decide) rfl
      rw [HST.out] at hrow
      have hk1 : Kept (fun i => i = g) wr ((wr.setCell ⟨g, k * 5 + 4, none⟩ (.int .i64 at_)).alloc (.cells (ac ⟨r, by_, s, si, t⟩) 39)) := ((Kept.refl (fun i => i = g) wr).setCell _ _ (fun _ => rfl)).alloc _
      refine ⟨⟨k + 1, by simp, by omega, owns_keep hrow (fun i e => Below.heap_alloc _ _ _ (hrow.lt i e).2), HM.out.kept hk1 (by have := HM.out.lt; omega), HB.out.trans (hk1.below (fun i e => by omega) HB.out.size)⟩, by simp [intOf]; omega⟩
    | false =>
      rw [hhas] at hch
      have HST : Hid (telk l keys at_ (k + 1) = telk l keys at_ k) := Lib.hid (telk_no HX.out hhas)
      clear hhas
      go_wp2_with fail
      exact ⟨⟨k + 1, by simp, by omega, by rw [HST.out]; exact HOW3.out, HM3.out, HB3.out⟩, by simp [intOf]; omega⟩
  · obtain rfl : k = l.length := by omega
    rw [telk_full] at hown
    have HOW2 := Lib.hid hown
    clear hown hM hB
    go_wp2_with fail
    go_ret
    have hlt2 : (tellL l keys at_).length = l.length := by unfold tellL; rw [List.length_map]
    refine ⟨_, rfl, ?_, HB.out⟩
    rw [hlt2]
    exact owns_lower HOW2.out hs12
set_option maxRecDepth 100000 in
set_option maxHeartbeats 2000000 in
theorem rtell_any {S T : Nat → Prop} {v1 v2 : Value} {l : List Al} {keys : List ByteArray} {at_ : Int} {w : World} (h1 : Sl S w v1 5 encA l) (h2 : Sl T w v2 1 encS keys) (hn1 : l.length ≤ 100000) (hn2 : keys.length ≤ 100000) :
    Calls Try.prog 12 #[v1, v2, .int .i64 at_] w (OwnsA (tellL l keys at_) w) := by
  have HCL := Lib.hid (copy_any h1 hn1)
  have H2 := Lib.hid (h2.mono (T := fun b => b < w.heap.size) (fun b hb _ => hb))
  obtain ⟨p1, c1, rfl, -, -⟩ := h1.len
  obtain ⟨p2, c2, rfl, -, -⟩ := h2.len
  clear h1 h2
  go_enter Try.func12, Try.ntmps12
  go_wp2_with fail
  refine HCL.out.mono ?_
  rintro e w2 ⟨v, rfl, hown, hb⟩
  obtain ⟨p3, c3, rfl⟩ := owns_slice hown
  have HB2 := Lib.hid hb
  have hown0 : w2.ownsRow w.heap.size 39 5 (.slice p3 l.length c3) l.length ((telk l keys at_ 0).flatMap encA) := by rw [telk_zero]; exact hown
  clear hb hown HCL
  go_wp2_with fail
  go_loopw [8] (fun iv_ wr => ∃ k : Nat, iv_ = .int .i64 k ∧ k ≤ l.length ∧ wr.ownsRow w.heap.size 39 5 (.slice p3 l.length c3) l.length ((telk l keys at_ k).flatMap encA) ∧ Below w.heap.size w wr) (fun iv_ _ => l.length - (intOf iv_).toNat)
  · exact ⟨0, rfl, by omega, hown0, HB2.out⟩
  clear hown0
  obtain ⟨k, rfl, hk, hown, hB⟩ := hrel
  have HOW := Lib.hid hown
  have HB := Lib.hid hB
  by_cases hlt : k < l.length
  · obtain ⟨⟨r, by_, s, si, t⟩, hx⟩ : ∃ x, l[k]? = some x := ⟨_, List.getElem?_eq_getElem hlt⟩
    obtain ⟨g, rfl⟩ := own_some hown (by omega)
    have hxx := telk_at (keys := keys) (at_ := at_) hx
    have x1 := own_rdG encA_len hown hxx 1 _ rfl
    have x4 := own_rdG encA_len hown hxx 4 _ rfl
    have fz := own_fzG hown
    have hgl := (hown.lt g rfl).2
    have hgb := (hown.lt g rfl).1
    simp only at x1 x4
    have hkk : (k : Int) < (l.length : Int) := by omega
    have HX := Lib.hid hx
    have HHA := Lib.hid (has_any (s := by_) (H2.out.below hB) hn2)
    clear hx hxx hown hB
    go_wp2_with fail
    refine HHA.out.mono ?_
    rintro e w3 ⟨rfl, rfl⟩
    cases hhas : hasK keys by_ with
    | true =>
      have HST : Hid ((telk l keys at_ k).set k ⟨r, by_, s, si, at_⟩ = telk l keys at_ (k + 1)) := Lib.hid (by
        rw [← telk_set HX.out]
        congr 1
        unfold tell1
        rw [if_pos hhas])
      clear hhas
      go_wp2_with fail
      have hrow := own_putG (j := 4) (u := .int .i64 at_) (o' := ⟨r, by_, s, si, at_⟩) encA_len HOW.out (telk_at HX.out) (by decide) rfl
      rw [HST.out] at hrow
      have hk1 : Kept (fun i => i = g) wr (wr.setCell ⟨g, k * 5 + 4, none⟩ (.int .i64 at_)) := (Kept.refl (fun i => i = g) wr).setCell _ _ (fun _ => rfl)
      refine ⟨⟨k + 1, by simp, by omega, hrow, HB.out.trans (hk1.below (fun i e => by omega) HB.out.size)⟩, by simp [intOf]; omega⟩
    | false =>
      have HST : Hid (telk l keys at_ (k + 1) = telk l keys at_ k) := Lib.hid (telk_no HX.out hhas)
      clear hhas
      go_wp2_with fail
      exact ⟨⟨k + 1, by simp, by omega, by rw [HST.out]; exact HOW.out, HB.out⟩, by simp [intOf]; omega⟩
  · obtain rfl : k = l.length := by omega
    rw [telk_full] at hown
    have HOW2 := Lib.hid hown
    clear hown hB
    go_wp2_with fail
    go_ret
    have hlt2 : (tellL l keys at_).length = l.length := by unfold tellL; rw [List.length_map]
    refine ⟨_, rfl, ?_, HB.out⟩
    rw [hlt2]
    exact HOW2.out
end Go.Proofs.Ytajflljemfgkiaa
