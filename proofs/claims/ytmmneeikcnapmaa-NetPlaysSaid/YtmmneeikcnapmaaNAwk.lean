/- awake: the chapter's examples -/
import Derived.Test.YtmmneeikcnapmaaNMid
namespace Go.Proofs.Ytmmneeikcnapmaa
open Go.RowKit
attribute [local go_sem] Oper.semAt_some

abbrev ma (i : Int) : Ms := ⟨0, ⟨#[]⟩, i, [], []⟩
abbrev ra (i : Int) : Mr := ⟨.slice none 0 0, .slice none 0 0, ma i⟩
theorem few_ma (i : Int) : Few (ma i) := ⟨by simp, by simp⟩
theorem Mo.ra {S : Nat → Prop} {W : World} (i : Int) : Mo S W (ra i) := ⟨Sl.nil S W, Sl.nil S W⟩
def upto (k : Nat) : List Ms := (List.range k).map fun i : Nat => ma (i : Int)
abbrev c123 : Array Value := #[.int .u32 0, .string ⟨#[]⟩, .int .i64 1, .slice none 0 0, .slice none 0 0, .int .u32 0, .string ⟨#[]⟩, .int .i64 2, .slice none 0 0, .slice none 0 0, .int .u32 0, .string ⟨#[]⟩, .int .i64 3, .slice none 0 0, .slice none 0 0]
theorem upto_succ {k : Nat} (hk : k < 16) : sendL (upto k) (ma k) = upto (k + 1) := by
  unfold sendL upto
  rw [if_pos (by simpa using hk), List.range_succ, List.map_append]
  rfl
theorem upto_len (k : Nat) : (upto k).length = k := by unfold upto; simp
/-- a message that was taken, its slices open -/
theorem Mo.cut {S : Nat → Prop} {W : World} {r : Mr} {m : Ms} (h : Mo S W r) (e : r.m = m) : ∃ p1 c1 p2 c2, r = ⟨.slice p1 m.ks.length c1, .slice p2 m.ss.length c2, m⟩ := by
  subst e
  exact h.open
theorem pk1 : pick 4 [ma 1, ma 2, ma 3].length = 1 := by decide
theorem pk2 : pick (-1) [ma 1, ma 3].length = 1 := by decide
theorem pk3 : pick 0 [ma 1].length = 0 := by decide
set_option maxRecDepth 100000 in
set_option maxHeartbeats 1000000 in
theorem awake_any (w : World) : Calls Try.prog 10 #[] w (Tells (.bool true) w) := by
  go_enter Try.func10, Try.ntmps10
  go_wp2_with fail
  have hb0 : Below w.heap.size w (w.alloc (.cells c123 33)) := (Below.refl _ w).alloc (Nat.le_refl _) _
  have hL : Msl (fun _ => True) (w.alloc (.cells c123 33)) (.slice (some ⟨w.heap.size, 0, none⟩) 3 3) [ma 1, ma 2, ma 3] := ⟨[ra 1, ra 2, ra 3], rfl, Sl.full (xs := [ra 1, ra 2, ra 3]) encM_len (Box.new _ _ _) rfl (by decide) trivial, fun r hr => by simp at hr; rcases hr with rfl | rfl | rfl <;> exact Mo.ra _⟩
  obtain ⟨W0, hW0⟩ : ∃ W0, (w.alloc (.cells c123 33)) = W0 := ⟨_, rfl⟩
  rw [hW0] at hb0 hL ⊢
  clear hW0
  refine (new_m hL (fun x hx => by simp at hx; rcases hx with rfl | rfl | rfl <;> exact few_ma _) (by decide)).mono ?_
  rintro e w1 ⟨rfl, hN, hb⟩
  have HB1 := Lib.hid (below_then hb0 hb)
  have hs : w.heap.size ≤ w1.heap.size := HB1.out.size
  have hpw : w.heap.size ≤ W0.heap.size := hb0.size
  obtain ⟨p, hp⟩ : ∃ p, p = W0.heap.size := ⟨_, rfl⟩
  rw [← hp] at hN hpw ⊢
  replace hN : NetM (fun b => b < w.heap.size ∨ w1.heap.size ≤ b) p w1 [ma 1, ma 2, ma 3] := hN.turn (fun b _ m => by omega)
  clear hp hb hb0 hL
  go_wp2_with fail
  refine (take_m hN (by decide) (by decide)).mono ?_
  rintro e w2 ⟨r, rfl, hx, hm, hN, hk⟩
  rw [pk1] at hx
  replace hN := pk1 ▸ hN
  obtain ⟨p1, c1, p2, c2, rfl⟩ := hm.cut (m := ma 2) (Option.some.inj hx).symm
  have HB2 := Lib.hid (HB1.out.trans (hk.below (fun b s => by omega) hs))
  have hs2 := hk.size
  replace hN : NetM (fun b => b < w.heap.size ∨ w1.heap.size ≤ b) p w2 [ma 1, ma 3] := hN
  clear hx hm hk HB1
  have b2 := Box.new w2 (mc ⟨.slice p1 0 c1, .slice p2 0 c2, ma 2⟩) 33
  have hb2 : Below w2.heap.size w2 (w2.alloc (.cells (mc ⟨.slice p1 0 c1, .slice p2 0 c2, ma 2⟩) 33)) := (Below.refl _ w2).alloc (Nat.le_refl _) _
  go_wp2_with fail
  obtain ⟨W2, hW2⟩ : ∃ W2, (w2.alloc (.cells (mc ⟨.slice p1 0 c1, .slice p2 0 c2, ma 2⟩) 33)) = W2 := ⟨_, rfl⟩
  rw [hW2] at b2 hb2 ⊢
  have hN := hN.below hb2
  have HB2 := Lib.hid (HB2.out.trans (hb2.mono (by omega)))
  have la2 := b2.lt
  have hs2' := hb2.size
  clear hW2 hb2
  refine (take_m hN (by decide) (by decide)).mono ?_
  rintro e w3 ⟨r, rfl, hx, hm, hN, hk⟩
  rw [pk2] at hx
  replace hN := pk2 ▸ hN
  obtain ⟨p3, c3, p4, c4, rfl⟩ := hm.cut (m := ma 3) (Option.some.inj hx).symm
  have HB3 := Lib.hid (HB2.out.trans (hk.below (fun b s => by omega) HB2.out.size))
  have hs3 := hk.size
  replace hN : NetM (fun b => b < w.heap.size ∨ w1.heap.size ≤ b) p w3 [ma 1] := hN
  have b2 := b2.kept hk (by omega)
  clear hx hm hk HB2
  have b4 := Box.new w3 (mc ⟨.slice p3 0 c3, .slice p4 0 c4, ma 3⟩) 33
  have hb4 : Below w3.heap.size w3 (w3.alloc (.cells (mc ⟨.slice p3 0 c3, .slice p4 0 c4, ma 3⟩) 33)) := (Below.refl _ w3).alloc (Nat.le_refl _) _
  have HNL := Lib.hid (len_m (hN.below hb4))
  have hN := hN.below hb4
  have b2 := b2.below hb4
  go_wp2_with fail
  refine HNL.out.mono ?_
  rintro e w3' ⟨rfl, rfl⟩
  obtain ⟨W3, hW3⟩ : ∃ W3, (w3.alloc (.cells (mc ⟨.slice p3 0 c3, .slice p4 0 c4, ma 3⟩) 33)) = W3 := ⟨_, rfl⟩
  rw [hW3] at b4 hb4 hN b2 ⊢
  have HB3 := Lib.hid (HB3.out.trans (hb4.mono (by omega)))
  have la4 := b4.lt
  have hs4' := hb4.size
  clear hW3 hb4 HNL
  go_wp2_with fail
  refine (take_m hN (by decide) (by decide)).mono ?_
  rintro e w4 ⟨r, rfl, hx, hm, hN, hk⟩
  rw [pk3] at hx
  replace hN := pk3 ▸ hN
  obtain ⟨p5, c5, p6, c6, rfl⟩ := hm.cut (m := ma 1) (Option.some.inj hx).symm
  have HB4 := Lib.hid (HB3.out.trans (hk.below (fun b s => by omega) HB3.out.size))
  have hs4 := hk.size
  replace hN : NetM (fun b => b < w.heap.size ∨ w1.heap.size ≤ b) p w4 [] := hN
  have b2 := b2.kept hk (by omega)
  have b4 := b4.kept hk (by omega)
  clear hx hm hk HB3
  have b7 := Box.new w4 (mc ⟨.slice p5 0 c5, .slice p6 0 c6, ma 1⟩) 33
  have hb7 : Below w4.heap.size w4 (w4.alloc (.cells (mc ⟨.slice p5 0 c5, .slice p6 0 c6, ma 1⟩) 33)) := (Below.refl _ w4).alloc (Nat.le_refl _) _
  have HNL := Lib.hid (take_m0 (i := 0) (hN.below hb7))
  have hN := hN.below hb7
  have b2 := b2.below hb7
  have b4 := b4.below hb7
  go_wp2_with fail
  refine HNL.out.mono ?_
  rintro e w5 ⟨rfl, hb5⟩
  obtain ⟨W4, hW4⟩ : ∃ W4, (w4.alloc (.cells (mc ⟨.slice p5 0 c5, .slice p6 0 c6, ma 1⟩) 33)) = W4 := ⟨_, rfl⟩
  rw [hW4] at b7 hb7 hN b2 b4 hb5
  have HB5 := Lib.hid ((HB4.out.trans (hb7.mono (by omega))).trans (hb5.mono (by have := hb7.size; omega)))
  have hN := hN.below hb5
  have b2 := b2.below hb5
  have b4 := b4.below hb5
  have b7 := b7.below hb5
  have la7 := b7.lt
  have hs7' := hb7.size
  have hs7 := hb5.size
  clear hW4 hb7 hb5 HNL HB4
  have hb9 : Below w5.heap.size w5 (w5.alloc (.cells zm 33)) := (Below.refl _ w5).alloc (Nat.le_refl _) _
  have hN := hN.below hb9
  have b2 := b2.below hb9
  have b4 := b4.below hb9
  have b7 := b7.below hb9
  have HB6 := Lib.hid (HB5.out.trans (hb9.mono (by omega)))
  obtain ⟨W5, hW5⟩ : ∃ W5, (w5.alloc (.cells zm 33)) = W5 := ⟨_, rfl⟩
  rw [hW5] at hN b2 b4 b7 HB6 hb9
  have HW5 := Lib.hid hW5
  have hs9 := hb9.size
  clear hW5 hb9
  unfold zeroM
  go_wp2_with fail
  rw [HW5.out]
  clear HW5
  have hN0 : NetM (fun b => b < W5.heap.size ∧ (b < w.heap.size ∨ w1.heap.size ≤ b)) p W5 (upto 0) := hN.turn (fun b _ m => m.2)
  have HN0 := Lib.hid hN0
  have H2 := Lib.hid b2
  have H4 := Lib.hid b4
  have H7 := Lib.hid b7
  clear hN hN0 b2 b4 b7
  go_loopw [11] (fun iv_ wr => ∃ k : Nat, iv_ = .int .i64 k ∧ k ≤ 16 ∧ NetM (fun b => b < W5.heap.size ∧ (b < w.heap.size ∨ w1.heap.size ≤ b)) p wr (upto k) ∧ Kept (fun b => ¬ (b < W5.heap.size ∧ (b < w.heap.size ∨ w1.heap.size ≤ b))) W5 wr) (fun iv_ _ => 16 - (intOf iv_).toNat)
  · exact ⟨0, rfl, by omega, HN0.out, Kept.refl _ _⟩
  obtain ⟨k, rfl, hk, hN, hK⟩ := hrel
  have hsr := hK.size
  by_cases hlt : k < 16
  · have hkk : (k : Int) < 16 := by omega
    have HS := Lib.hid (send_m hN (fun b m => by omega) (Mo.ra (S := fun _ => True) (k : Int)) (few_ma k))
    have HU := Lib.hid (upto_succ hlt)
    have HE : Hid (sendE (upto k) = 0) := Lib.hid (by unfold sendE; rw [if_pos (by rw [upto_len]; exact hlt)])
    have HK := Lib.hid hK
    clear hN hK
    go_wp2_with fail
    refine HS.out.mono ?_
    rintro e w6 ⟨rfl, hN, hk6⟩
    rw [HE.out]
    have hN := HU.out ▸ hN
    have HN := Lib.hid hN
    have HK6 := Lib.hid (HK.out.trans hk6 (fun _ _ x => x) (fun _ _ x => x))
    clear hN hk6 HS HU
    go_wp2_with fail
    exact ⟨⟨k + 1, by simp, by omega, HN.out, HK6.out⟩, by simp [intOf]; omega⟩
  · obtain rfl : k = 16 := by omega
    have HS := Lib.hid (send_m (r := zeroM) hN (fun b m => by omega) (Mo.zero (fun _ => True) _) ⟨by simp [zeroM], by simp [zeroM]⟩)
    have HE : Hid (sendE (upto 16) = 312) := Lib.hid (by unfold sendE; rw [if_neg (by rw [upto_len]; omega)])
    have HK := Lib.hid hK
    have c2 := (H2.out.kept hK (by omega)).rd.1
    have c4 := (H4.out.kept hK (by omega)).rd.1
    have c7 := (H7.out.kept hK (by omega)).rd.1
    unfold zeroM at HS
    clear hN hK
    go_wp2_with fail
    refine HS.out.mono ?_
    rintro e w6 ⟨rfl, hN, hk6⟩
    rw [HE.out]
    have HL := Lib.hid (len_m hN)
    have hl : (sendL (upto 16) (zeroM).m).length = 16 := by unfold sendL; rw [if_neg (by rw [upto_len]; omega), upto_len]
    have HB7 := Lib.hid (HB6.out.trans ((HK.out.trans hk6 (fun _ _ x => x) (fun _ _ x => x)).below (fun b s => by omega) HB6.out.size))
    clear hN hk6 HS c2 c4 c7
    go_wp2_with fail
    refine HL.out.mono ?_
    rintro e w7 ⟨rfl, rfl⟩
    have hl2 : ((sendL (upto 16) ⟨0, ⟨#[]⟩, 0, [], []⟩).length : Int) = 16 := by rw [show (sendL (upto 16) ⟨0, ⟨#[]⟩, 0, [], []⟩).length = 16 from hl]; rfl
    rw [hl2]
    clear hl hl2 HL
    go_wp2_with fail
    go_ret
    exact ⟨rfl, HB7.out⟩
end Go.Proofs.Ytmmneeikcnapmaa
