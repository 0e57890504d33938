/- NetTurns's walk -/
import Derived.Test.YtmmneeikcnapmaaNAwk
import Derived.Test.YtmmneeikcnapmaaNNon
namespace Go.Proofs.Ytmmneeikcnapmaa
open Go.RowKit
attribute [local go_sem] Oper.semAt_some

theorem pick_emod (i : Int) {n : Nat} (hn : 0 < n) : (pick i n : Int) = i % (n : Int) := by
  have h0 := pick_eq i hn
  have h1 := (tmod_in i hn).1
  rw [← h0, Int.tmod_eq_emod_of_nonneg (by omega), Int.add_emod_right]
  have h2 := Int.mul_tdiv_add_tmod i n
  conv => rhs; rw [← h2]
  rw [Int.add_comm, Int.add_mul_emod_self_left]
theorem pick_turn (i t : Int) {n : Nat} (hn : 0 < n) : pick (i + t * n) n = pick i n := by
  have h1 := pick_emod i hn
  have h2 := pick_emod (i + t * n) hn
  rw [Int.add_mul_emod_self_right] at h2
  omega
theorem few_snoc {l : List Ms} {k : Nat} {x : Ms} (h : ∀ y ∈ l.take k, Few y) (hx : l[k]? = some x) (hf : Few x) : ∀ y ∈ l.take (k + 1), Few y := fun y hy => by
  rw [take_snoc' hx] at hy
  rcases List.mem_append.1 hy with hy | hy
  · exact h y hy
  · obtain rfl : y = x := by simpa using hy
    exact hf
/-- one message in a block of its own -/
theorem msl_one {S : Nat → Prop} {W : World} {b : Nat} {t : TypeId} {r : Mr} (h : Box W b (mc r) t) (hm : Mo S W r) : Msl (fun _ => True) W (.slice (some ⟨b, 0, none⟩) 1 1) [r.m] :=
  msl_block (rs := [r]) h rfl (by decide) (fun x hx => by simp at hx; subst hx; exact hm.mono (fun _ _ _ => trivial))
theorem mul_in {t : Int} {n : Nat} (hn : n ≤ 16) (h5 : -1000 ≤ t) (h6 : t ≤ 1000) : -16000 ≤ t * (n : Int) ∧ t * (n : Int) ≤ 16000 := by
  have h1 := Int.mul_le_mul_of_nonneg_right h5 (c := (n : Int)) (by omega)
  have h2 := Int.mul_le_mul_of_nonneg_right h6 (c := (n : Int)) (by omega)
  omega
set_option maxRecDepth 100000 in
set_option maxHeartbeats 1000000 in
theorem netTurns_any {v : Value} {l : List Ms} {i t : Int} {w : World} (h : Msl (fun _ => True) w v l) : Calls Try.prog 9 #[v, .int .i64 i, .int .i64 t] w (Tells (.bool true) w) := by
  obtain ⟨p1, c1, rfl⟩ := h.slice
  have HL := Lib.hid h
  clear h
  by_cases hok : l.length ≤ 16 ∧ 0 < l.length ∧ 0 ≤ i ∧ i ≤ 1000 ∧ -1000 ≤ t ∧ t ≤ 1000
  · obtain ⟨h1, h2, h3, h4, h5, h6⟩ := hok
    have h1' : ¬ (16 : Int) < (l.length : Int) := by omega
    have h2' : ((l.length : Int) == 0) = false := by rw [beq_eq_false_iff_ne]; omega
    go_enter Try.func9, Try.ntmps9
    go_wp2_with fail
    refine (awake_any _).mono ?_
    rintro e w1 ⟨rfl, hb⟩
    have HB := Lib.hid hb
    have HL1 := Lib.hid (HL.out.below hb)
    clear hb HL
    go_wp2_with fail
    go_loopw [7] (fun iv_ wr => ∃ k : Nat, iv_ = .int .i64 k ∧ k ≤ l.length ∧ (∀ x ∈ l.take k, Few x) ∧ Below w1.heap.size w1 wr) (fun iv_ _ => l.length - (intOf iv_).toNat)
    · exact ⟨0, rfl, by omega, (fun x hx => by simp at hx), Below.refl _ _⟩
    obtain ⟨k, rfl, hk, hF, hB⟩ := hrel
    by_cases hlt : k < l.length
    · obtain ⟨x, hx⟩ : ∃ x, l[k]? = some x := ⟨_, List.getElem?_eq_getElem hlt⟩
      obtain ⟨a1, ⟨kv, sv, m⟩, rfl, e1, g1, x0, x1, x2, x3, x4⟩ := (HL1.out.below hB).at hx
      obtain ⟨q1, d1, e3, -, -⟩ := g1.k.len
      obtain ⟨q2, d2, e4, -, -⟩ := g1.s.len
      simp only at e3 e4 x0 x1 x2 x3 x4
      subst e3 e4
      have hkk : (k : Int) < (l.length : Int) := by omega
      have HG := Lib.hid (big_any g1)
      have HS := Lib.hid (fun hf : Few m => few_snoc hF hx (e1 ▸ hf))
      have HBr := Lib.hid hB
      clear hx e1 g1 hF hB
      go_wp2_with fail
      refine HG.out.mono ?_
      rintro e w2 ⟨bg, rfl, hf, hb⟩
      have HB2 := Lib.hid (below_then HBr.out hb)
      clear hb HG x0 x1 x2 x3 x4
      cases bg with
      | true =>
        clear hf
        go_wp2_with fail
        go_ret
        exact ⟨rfl, below_then HB.out HB2.out⟩
      | false =>
        have HF2 := Lib.hid (HS.out (hf rfl))
        clear hf HS
        go_wp2_with fail
        exact ⟨⟨k + 1, by simp, by omega, HF2.out, HB2.out⟩, by simp [intOf]; omega⟩
    · obtain rfl : k = l.length := by omega
      rw [List.take_length] at hF
      have HF := Lib.hid hF
      have HL2 := Lib.hid (HL1.out.below hB)
      have HBr := Lib.hid (below_then HB.out hB)
      clear hF hB HL1 HB
      go_wp2_with fail
      refine (new_m HL2.out HF.out h1).mono ?_
      rintro e w2 ⟨rfl, hA, hb⟩
      have HL3 := Lib.hid (HL2.out.below hb)
      have HB2 := Lib.hid (below_then HBr.out hb)
      have hs1 := hb.size
      have hwr := HBr.out.size
      clear hb HL2
      go_wp2_with fail
      refine (new_m HL3.out HF.out h1).mono ?_
      rintro e w3 ⟨rfl, hC, hb⟩
      have HB3 := Lib.hid (below_then HB2.out hb)
      have HA := Lib.hid (hA.below hb)
      have HC := Lib.hid hC
      have hs2 := hb.size
      clear hb HL3 hA hC
      go_wp2_with fail
      refine (take_m HA.out h2 (by omega)).mono ?_
      rintro e w4 ⟨r, rfl, hx, hm, hA, hk4⟩
      have hpl := pick_lt i h2
      have hpt := pick_turn i t h2
      obtain ⟨k, hkd⟩ : ∃ k, pick i l.length = k := ⟨_, rfl⟩
      rw [hkd] at hx hA hpl hpt
      obtain ⟨kv, sv, m⟩ := r
      obtain ⟨q1, d1, e3, -, -⟩ := hm.k.len
      obtain ⟨q2, d2, e4, -, -⟩ := hm.s.len
      simp only at e3 e4 hx
      subst e3 e4
      have hfm : Few m := HF.out m (List.mem_of_getElem? hx)
      have HB4 := Lib.hid (HB3.out.trans (hk4.below (fun b s => by omega) HB3.out.size))
      have hC4 := HC.out.kept hk4 (fun b _ s => by omega)
      have hs4 := hk4.size
      have b10 := Box.new w4 (mc ⟨.slice q1 m.ks.length d1, .slice q2 m.ss.length d2, m⟩) 33
      have hb10 : Below w4.heap.size w4 (w4.alloc (.cells (mc ⟨.slice q1 m.ks.length d1, .slice q2 m.ss.length d2, m⟩) 33)) := (Below.refl _ w4).alloc (Nat.le_refl _) _
      have HA5 := Lib.hid (hA.below hb10)
      have HC5 := Lib.hid (hC4.below hb10)
      have HM5 := Lib.hid (hm.below hb10)
      have HX := Lib.hid hx
      have HFM := Lib.hid hfm
      have HPT := Lib.hid hpt
      have htn := mul_in (t := t) h1 h5 h6
      obtain ⟨s, hs⟩ : ∃ s, t * (l.length : Int) = s := ⟨_, rfl⟩
      rw [hs] at htn HPT
      have w1' : wrap64 s = s := IntWalk.wrap64_in _ ⟨by omega, by omega⟩
      have w2' : wrap64 (i + s) = i + s := IntWalk.wrap64_in _ ⟨by omega, by omega⟩
      have w3' : IntKind.i64.wrap s = s := IntWalk.i64_in _ ⟨by omega, by omega⟩
      have w4' : IntKind.i64.wrap (i + s) = i + s := IntWalk.i64_in _ ⟨by omega, by omega⟩
      clear hx hm hA hC4 hfm hpt HA HC HB3
      go_wp2_with fail
      obtain ⟨W4, hW4⟩ : ∃ W4, (w4.alloc (.cells (mc ⟨.slice q1 m.ks.length d1, .slice q2 m.ss.length d2, m⟩) 33)) = W4 := ⟨_, rfl⟩
      rw [hW4] at b10 hb10 HA5 HC5 HM5 ⊢
      have HB5 := Lib.hid (HB4.out.trans (hb10.mono (by omega)))
      have hs5 := hb10.size
      have hl10 := b10.lt
      have H10 := Lib.hid b10
      clear hW4 hb10 hk4 b10 HB4
      refine (take_m HC5.out h2 (by omega)).mono ?_
      rintro e w5 ⟨⟨kv, sv, m2⟩, rfl, hx, hm, hC, hk5⟩
      rw [HPT.out] at hx hC
      obtain rfl : m2 = m := Option.some.inj (hx.symm.trans HX.out)
      obtain ⟨q3, d3, e3, -, -⟩ := hm.k.len
      obtain ⟨q4, d4, e4, -, -⟩ := hm.s.len
      simp only at e3 e4
      subst e3 e4
      have HB6 := Lib.hid (HB5.out.trans (hk5.below (fun b s => by omega) HB5.out.size))
      have hA6 := HA5.out.kept hk5 (fun b _ s => by omega)
      have hM6 := HM5.out.kept hk5 (fun b _ s => by omega)
      have h10 := H10.out.kept hk5 (by omega)
      have hs6 := hk5.size
      have b12 := Box.new w5 (mc ⟨.slice q3 m2.ks.length d3, .slice q4 m2.ss.length d4, m2⟩) 33
      have hb12 : Below w5.heap.size w5 (w5.alloc (.cells (mc ⟨.slice q3 m2.ks.length d3, .slice q4 m2.ss.length d4, m2⟩) 33)) := (Below.refl _ w5).alloc (Nat.le_refl _) _
      have HA7 := Lib.hid (hA6.below hb12)
      have HC7 := Lib.hid (hC.below hb12)
      have HM7 := Lib.hid (hM6.below hb12)
      have HN7 := Lib.hid (hm.below hb12)
      have c10 := h10.rd.1
      have hl11 := h10.lt
      have H11 := Lib.hid h10
      clear hx hm hA6 hM6 hC HA5 HC5 HM5 H10 HX HPT w1' w2' w3' w4' h10
      go_wp2_with fail
      obtain ⟨W5, hW5⟩ : ∃ W5, (w5.alloc (.cells (mc ⟨.slice q3 m2.ks.length d3, .slice q4 m2.ss.length d4, m2⟩) 33)) = W5 := ⟨_, rfl⟩
      have hz5 : W5.heap.size = w5.heap.size + 1 := by rw [← hW5, World.size_alloc]
      rw [hW5] at b12 hb12 HA7 HC7 HM7 HN7 ⊢
      have HB7 := Lib.hid (HB6.out.trans (hb12.mono (by omega)))
      clear hW5 b12 hb12 HB6
      have bx := (Box.new W5 (mc ⟨.slice q1 m2.ks.length d1, .slice q2 m2.ss.length d2, m2⟩) 33).alloc (.cells (mc ⟨.slice q3 m2.ks.length d3, .slice q4 m2.ss.length d4, m2⟩) 33)
      have bz := Box.new (W5.alloc (.cells (mc ⟨.slice q1 m2.ks.length d1, .slice q2 m2.ss.length d2, m2⟩) 33)) (mc ⟨.slice q3 m2.ks.length d3, .slice q4 m2.ss.length d4, m2⟩) 33
      rw [World.size_alloc, hz5] at bz
      rw [hz5] at bx
      have hb8 : Below W5.heap.size W5 ((W5.alloc (.cells (mc ⟨.slice q1 m2.ks.length d1, .slice q2 m2.ss.length d2, m2⟩) 33)).alloc (.cells (mc ⟨.slice q3 m2.ks.length d3, .slice q4 m2.ss.length d4, m2⟩) 33)) := ((Below.refl _ W5).alloc (Nat.le_refl _) _).alloc (by simp) _
      obtain ⟨W8, hW8⟩ : ∃ W8, ((W5.alloc (.cells (mc ⟨.slice q1 m2.ks.length d1, .slice q2 m2.ss.length d2, m2⟩) 33)).alloc (.cells (mc ⟨.slice q3 m2.ks.length d3, .slice q4 m2.ss.length d4, m2⟩) 33)) = W8 := ⟨_, rfl⟩
      rw [hW8] at bx bz hb8 ⊢
      have HSA := Lib.hid (sames_any (xs := [m2]) (msl_one (r := ⟨.slice q1 m2.ks.length d1, .slice q2 m2.ss.length d2, m2⟩) bx (HM7.out.below hb8)) (msl_one (r := ⟨.slice q3 m2.ks.length d3, .slice q4 m2.ss.length d4, m2⟩) bz (HN7.out.below hb8)) (fun x hx => by simp at hx; subst hx; exact HFM.out) (by simp))
      have HA8 := Lib.hid (HA7.out.below hb8)
      have HC8 := Lib.hid (HC7.out.below hb8)
      have HB8 := Lib.hid (below_then HB7.out hb8)
      clear hW8 bx bz hb8 HA7 HC7 HM7 HN7 HB7 c10
      refine HSA.out.mono ?_
      rintro e w9 ⟨rfl, hb⟩
      have HA9 := Lib.hid (HA8.out.below hb)
      have HC9 := Lib.hid (HC8.out.below hb)
      have HB9 := Lib.hid (below_then HB8.out hb)
      have hle : (l.eraseIdx k).length ≤ 100000 := by rw [List.length_eraseIdx_of_lt hpl]; omega
      clear hb HA8 HC8 HB8 HSA
      go_wp2_with fail
      refine (all_m HA9.out hle).mono ?_
      rintro e w10 ⟨v1, rs1, rfl, hr1, hw1, hb⟩
      obtain ⟨y1, z1, rfl⟩ := owns_slice hw1.own
      have hmsl := hw1.msl
      rw [hr1] at hmsl
      have HS1 := Lib.hid hmsl
      have HC10 := Lib.hid (HC9.out.below hb)
      have HB10 := Lib.hid (below_then HB9.out hb)
      clear hr1 hw1 hmsl hb
      go_wp2_with fail
      refine (all_m HC10.out hle).mono ?_
      rintro e w11 ⟨v2, rs2, rfl, hr2, hw2, hb⟩
      obtain ⟨y2, z2, rfl⟩ := owns_slice hw2.own
      have hmsl := hw2.msl
      rw [hr2] at hmsl
      have HS2 := Lib.hid hmsl
      have HS1' := Lib.hid (HS1.out.below hb)
      have HB11 := Lib.hid (below_then HB10.out hb)
      have HFE := Lib.hid HC10.out.few
      clear hr2 hw2 hmsl hb HS1
      go_wp2_with fail
      refine (sames_any HS1'.out HS2.out HFE.out hle).mono ?_
      rintro e w12 ⟨rfl, hb⟩
      have HB12 := Lib.hid (below_then HB11.out hb)
      clear hb
      go_wp2_with fail
      go_ret
      exact ⟨rfl, HB12.out⟩
  · have hbad : (16 : Int) < (l.length : Int) ∨ (¬ (16 : Int) < (l.length : Int) ∧ ((l.length : Int) == 0) = true) ∨ (¬ (16 : Int) < (l.length : Int) ∧ ((l.length : Int) == 0) = false ∧ i < 0) ∨ (¬ (16 : Int) < (l.length : Int) ∧ ((l.length : Int) == 0) = false ∧ ¬ i < 0 ∧ 1000 < i) ∨ (¬ (16 : Int) < (l.length : Int) ∧ ((l.length : Int) == 0) = false ∧ ¬ i < 0 ∧ ¬ 1000 < i ∧ t < -1000) ∨ (¬ (16 : Int) < (l.length : Int) ∧ ((l.length : Int) == 0) = false ∧ ¬ i < 0 ∧ ¬ 1000 < i ∧ ¬ t < -1000 ∧ 1000 < t) := by
      rw [beq_eq_false_iff_ne, beq_iff_eq]
      omega
    clear hok HL
    rcases hbad with h1 | ⟨h1, h2⟩ | ⟨h1, h2, h3⟩ | ⟨h1, h2, h3, h4⟩ | ⟨h1, h2, h3, h4, h5⟩ | ⟨h1, h2, h3, h4, h5, h6⟩
    all_goals
      go_enter Try.func9, Try.ntmps9
      go_wp2_with fail
      refine (awake_any _).mono ?_
      rintro e w1 ⟨rfl, hb⟩
      have HB := Lib.hid hb
      clear hb
      go_wp2_with fail
      go_ret
      exact ⟨rfl, HB.out⟩
end Go.Proofs.Ytmmneeikcnapmaa
