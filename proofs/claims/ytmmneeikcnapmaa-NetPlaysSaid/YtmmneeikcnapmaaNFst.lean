/- NetFirst's walk -/
import Derived.Test.YtmmneeikcnapmaaNTrn
namespace Go.Proofs.Ytmmneeikcnapmaa
open Go.RowKit
attribute [local go_sem] Oper.semAt_some

theorem pick_0 {n : Nat} (hn : 0 < n) : pick 0 n = 0 := by
  have h := pick_emod 0 hn
  rw [Int.zero_emod] at h
  omega
theorem pick_last {n : Nat} (hn : 0 < n) : pick (-1) n = n - 1 := by
  have h := pick_emod (-1) hn
  have h1 : (-1 : Int) % (n : Int) = ((n : Int) - 1) % n := by
    rw [show (-1 : Int) = ((n : Int) - 1) + (n : Int) * (-1) from by omega, Int.add_mul_emod_self_left]
  rw [h1, Int.emod_eq_of_lt (by omega) (by omega)] at h
  omega
theorem drop_erase {l : List Ms} {k : Nat} : (l.drop k).eraseIdx 0 = l.drop (k + 1) := by
  rw [List.eraseIdx_zero, List.tail_drop]
theorem take_erase {l : List Ms} {k : Nat} (hk : k + 1 ≤ l.length) : (l.take (k + 1)).eraseIdx k = l.take k := by
  rw [List.eraseIdx_eq_take_drop_succ, List.drop_of_length_le (by rw [List.length_take]; omega), List.append_nil, List.take_take, Nat.min_eq_left (by omega)]
/-- two lists in blocks of their own -/
theorem same_two {X : World} {la lb : List Mr} {n : Nat} (ha : ∀ r ∈ la, Mo (fun _ => True) X r) (hb : ∀ r ∈ lb, Mo (fun _ => True) X r) (he : la.map Mr.m = lb.map Mr.m) (hf : ∀ r ∈ lb, Few r.m) (h1 : n = la.length) (h2 : n = lb.length) (hn : n ≤ 1000) :
    Calls Try.prog 16 #[.slice (some ⟨X.heap.size, 0, none⟩) n n, .slice (some ⟨X.heap.size + 1, 0, none⟩) n n] ((X.alloc (.cells (la.flatMap encM).toArray 33)).alloc (.cells (lb.flatMap encM).toArray 33)) (Tells (.bool true) ((X.alloc (.cells (la.flatMap encM).toArray 33)).alloc (.cells (lb.flatMap encM).toArray 33))) ∧
    Calls Try.prog 16 #[.slice (some ⟨X.heap.size + 1, 0, none⟩) n n, .slice (some ⟨X.heap.size, 0, none⟩) n n] ((X.alloc (.cells (lb.flatMap encM).toArray 33)).alloc (.cells (la.flatMap encM).toArray 33)) (Tells (.bool true) ((X.alloc (.cells (lb.flatMap encM).toArray 33)).alloc (.cells (la.flatMap encM).toArray 33))) := by
  have hbe : ∀ (o1 o2 : Obj), Below X.heap.size X ((X.alloc o1).alloc o2) := fun o1 o2 => ((Below.refl _ X).alloc (Nat.le_refl _) _).alloc (by simp) _
  have bx : ∀ (c1 c2 : Array Value), Box ((X.alloc (.cells c1 33)).alloc (.cells c2 33)) X.heap.size c1 33 := fun c1 c2 => (Box.new X c1 _).alloc _
  have bz : ∀ (c1 c2 : Array Value), Box ((X.alloc (.cells c1 33)).alloc (.cells c2 33)) (X.heap.size + 1) c2 33 := fun c1 c2 => by
    have := Box.new (X.alloc (.cells c1 33)) c2 33
    rwa [World.size_alloc] at this
  have hfl : ∀ x ∈ lb.map Mr.m, Few x := fun x hx => by
    obtain ⟨r, hr, rfl⟩ := List.mem_map.1 hx
    exact hf r hr
  have hll : (lb.map Mr.m).length ≤ 100000 := by rw [List.length_map]; omega
  refine ⟨sames_any (S := fun _ => True) (xs := lb.map Mr.m) ?_ (msl_block (bz _ _) h2 hn (fun r hr => (hb r hr).below (hbe _ _))) hfl hll, sames_any (S := fun _ => True) (xs := lb.map Mr.m) ?_ (msl_block (bx _ _) h2 hn (fun r hr => (hb r hr).below (hbe _ _))) hfl hll⟩
  · rw [← he]
    exact msl_block (bx _ _) h1 hn (fun r hr => (ha r hr).below (hbe _ _))
  · rw [← he]
    exact msl_block (bz _ _) h1 hn (fun r hr => (ha r hr).below (hbe _ _))
set_option maxRecDepth 100000 in
set_option maxHeartbeats 1000000 in
theorem netFirst_any {v : Value} {l : List Ms} {w : World} (h : Msl (fun _ => True) w v l) : Calls Try.prog 4 #[v] w (Tells (.bool true) w) := by
  obtain ⟨p1, c1, rfl⟩ := h.slice
  have HL := Lib.hid (h.mono (T := fun b => b < w.heap.size) (fun b hb _ => hb))
  clear h
  by_cases h1 : l.length ≤ 16
  · have h1' : ¬ (16 : Int) < (l.length : Int) := by omega
    go_enter Try.func4, Try.ntmps4
    go_wp2_with fail
    refine (awake_any _).mono ?_
    rintro e w1 ⟨rfl, hb⟩
    have HB := Lib.hid hb
    have HL1 := Lib.hid (HL.out.below hb)
    clear hb HL
    go_wp2_with fail
    go_loopw [3] (fun iv_ wr => ∃ k : Nat, iv_ = .int .i64 k ∧ k ≤ l.length ∧ (∀ x ∈ l.take k, Few x) ∧ Below w1.heap.size w1 wr) (fun iv_ _ => l.length - (intOf iv_).toNat)
    · exact ⟨0, rfl, by omega, (fun x hx => by simp at hx), Below.refl _ _⟩
    obtain ⟨k, rfl, hk, hF, hB⟩ := hrel
    by_cases hlt : k < l.length
    · obtain ⟨x, hx⟩ : ∃ x, l[k]? = some x := ⟨_, List.getElem?_eq_getElem hlt⟩
      obtain ⟨a1, ⟨kv, sv, m⟩, rfl, e1, g1, x0, x1, x2, x3, x4⟩ := (HL1.out.below hB).at hx
      obtain ⟨q1, d1, e3, -, -⟩ := g1.k.len
      obtain ⟨q2, d2, e4, -, -⟩ := g1.s.len
      simp only at e3 e4 x0 x1 x2 x3 x4
      subst e3 e4
      have hkk : (k : Int) < (l.length : Int) := by omega
      have HG := Lib.hid (big_any g1)
      have HS := Lib.hid (fun hf : Few m => few_snoc hF hx (e1 ▸ hf))
      have HBr := Lib.hid hB
      clear hx e1 g1 hF hB
      go_wp2_with fail
      refine HG.out.mono ?_
      rintro e w2 ⟨bg, rfl, hf, hb⟩
      have HB2 := Lib.hid (below_then HBr.out hb)
      clear hb HG x0 x1 x2 x3 x4
      cases bg with
      | true =>
        clear hf
        go_wp2_with fail
        go_ret
        exact ⟨rfl, below_then HB.out HB2.out⟩
      | false =>
        have HF2 := Lib.hid (HS.out (hf rfl))
        clear hf HS
        go_wp2_with fail
        exact ⟨⟨k + 1, by simp, by omega, HF2.out, HB2.out⟩, by simp [intOf]; omega⟩
    · obtain rfl : k = l.length := by omega
      rw [List.take_length] at hF
      have HF := Lib.hid hF
      have HL2 := Lib.hid (HL1.out.below hB)
      have HBr := Lib.hid (below_then HB.out hB)
      clear hF hB HL1 HB
      go_wp2_with fail
      refine (new_m HL2.out HF.out h1).mono ?_
      rintro e w2 ⟨rfl, hA, hb⟩
      have HL3 := Lib.hid (HL2.out.below hb)
      have HB2 := Lib.hid (below_then HBr.out hb)
      have hs1 := hb.size
      have hwr := HBr.out.size
      clear hb HL2
      go_wp2_with fail
      refine (new_m HL3.out HF.out h1).mono ?_
      rintro e w3 ⟨rfl, hC, hb⟩
      have HB3 := Lib.hid (below_then HB2.out hb)
      have HA := Lib.hid (hA.below hb)
      have HC := Lib.hid hC
      have hs2 := hb.size
      have HL4 := Lib.hid (HL3.out.below hb)
      clear hb HL3 hA hC
      go_wp2_with fail
      obtain ⟨A, hAe⟩ : ∃ A, A = wr.heap.size := ⟨_, rfl⟩
      rw [← hAe] at HA hs1 hwr ⊢
      have hA0 := HA.out
      have hC0 := HC.out
      clear hAe HA HC HBr HB2
      go_wp2_with fail
      go_loopw [6, 7, 8, 9, 10] (fun iv_ _ _ _ _ w4 => ∃ k : Nat, iv_ = .int .i64 k ∧ k ≤ l.length ∧ NetM (fun b => b < A ∨ w2.heap.size ≤ b) A w4 (l.drop k) ∧ NetM (fun b => b < w2.heap.size ∨ w3.heap.size ≤ b) w2.heap.size w4 (l.take (l.length - k)) ∧ Kept (fun b => A ≤ b) w3 w4) (fun iv_ _ _ _ _ _ => l.length - (intOf iv_).toNat)
      · exact ⟨0, rfl, by omega, hA0, by rw [Nat.sub_zero, List.take_length]; exact hC0, Kept.refl _ _⟩
      clear hA0 hC0
      obtain ⟨k, rfl, hk, hA, hC, hK⟩ := hrel
      by_cases hlt : k < l.length
      · have hld : (l.drop k).length = l.length - k := List.length_drop
        have hlt' : (l.take (l.length - k)).length = l.length - k := by rw [List.length_take]; omega
        have hsk := hK.size
        have HKK := Lib.hid hK
        have HCC := Lib.hid hC
        have hkk : (k : Int) < (l.length : Int) := by omega
        clear hK hC
        go_wp2_with fail
        refine (take_m hA (by omega) (by omega)).mono ?_
        rintro e w4 ⟨⟨kv, sv, m1⟩, rfl, hx, hm, hA, hk4⟩
        rw [pick_0 (by omega)] at hx hA
        rw [List.getElem?_drop, Nat.add_zero] at hx
        rw [drop_erase] at hA
        obtain ⟨q1, d1, e3, -, -⟩ := hm.k.len
        obtain ⟨q2, d2, e4, -, -⟩ := hm.s.len
        simp only at e3 e4 hx
        subst e3 e4
        have hC4 := HCC.out.kept hk4 (fun b _ s => by omega)
        have hK4 := HKK.out.trans hk4 (fun _ _ s => s) (fun b _ s => by omega : ∀ b, b < w3.heap.size → ¬ (b < A ∨ w2.heap.size ≤ b) → A ≤ b)
        have hs4 := hk4.size
        have b10 := Box.new w4 (mc ⟨.slice q1 m1.ks.length d1, .slice q2 m1.ss.length d2, m1⟩) 33
        have hb10 : Below w4.heap.size w4 (w4.alloc (.cells (mc ⟨.slice q1 m1.ks.length d1, .slice q2 m1.ss.length d2, m1⟩) 33)) := (Below.refl _ w4).alloc (Nat.le_refl _) _
        have HA5 := Lib.hid (hA.below hb10)
        have HM5 := Lib.hid (hm.below hb10)
        have HK5 := Lib.hid (hK4.later hb10)
        have hC5 := hC4.below hb10
        have HX := Lib.hid hx
        clear hx hm hA hC4 hK4 hk4 HCC HKK
        go_wp2_with fail
        obtain ⟨W4, hW4⟩ : ∃ W4, (w4.alloc (.cells (mc ⟨.slice q1 m1.ks.length d1, .slice q2 m1.ss.length d2, m1⟩) 33)) = W4 := ⟨_, rfl⟩
        rw [hW4] at b10 hb10 HA5 hC5 HM5 HK5 ⊢
        have hs5 := hb10.size
        have hl10 := b10.lt
        have H10 := Lib.hid b10
        clear hW4 hb10 b10
        refine (take_m hC5 (by omega) (by omega)).mono ?_
        rintro e w5 ⟨⟨kv, sv, m2⟩, rfl, hx, hm, hC, hk5⟩
        rw [hlt', pick_last (by omega)] at hx hC
        obtain ⟨j, hj⟩ : ∃ j, l.length - k = j + 1 := ⟨l.length - k - 1, by omega⟩
        rw [hj, Nat.add_sub_cancel] at hx hC
        rw [take_erase (by omega)] at hC
        rw [List.getElem?_take, if_pos (by omega)] at hx
        obtain ⟨q3, d3, e3, -, -⟩ := hm.k.len
        obtain ⟨q4, d4, e4, -, -⟩ := hm.s.len
        simp only at e3 e4 hx
        subst e3 e4
        have hA5 := HA5.out.kept hk5 (fun b _ s => by omega)
        have hM5 := HM5.out.kept hk5 (fun b _ s => by omega)
        have h10 := H10.out.kept hk5 (by omega)
        have hK5 := HK5.out.trans hk5 (fun _ _ s => s) (fun b _ s => by omega : ∀ b, b < w3.heap.size → ¬ (b < w2.heap.size ∨ w3.heap.size ≤ b) → A ≤ b)
        have hs6 := hk5.size
        have b12 := Box.new w5 (mc ⟨.slice q3 m2.ks.length d3, .slice q4 m2.ss.length d4, m2⟩) 33
        have hb12 : Below w5.heap.size w5 (w5.alloc (.cells (mc ⟨.slice q3 m2.ks.length d3, .slice q4 m2.ss.length d4, m2⟩) 33)) := (Below.refl _ w5).alloc (Nat.le_refl _) _
        have hA6 := hA5.below hb12
        have hC6 := hC.below hb12
        have hM6 := hM5.below hb12
        have hN6 := hm.below hb12
        have hK6 := hK5.later hb12
        have h10' := h10.below hb12
        have hHX := hx
        clear hx hm hC hA5 hM5 hK5 h10 HA5 HM5 HK5 H10 hk5
        go_wp2_with fail
        obtain ⟨W5, hW5⟩ : ∃ W5, (w5.alloc (.cells (mc ⟨.slice q3 m2.ks.length d3, .slice q4 m2.ss.length d4, m2⟩) 33)) = W5 := ⟨_, rfl⟩
        rw [hW5] at b12 hb12 hA6 hC6 hM6 hN6 hK6 h10' ⊢
        have hs7 := hb12.size
        clear hW5 hb12
        have hL := HL4.out.kept hK6 (fun b _ s => by omega)
        obtain ⟨a1, ⟨kv, sv, m3⟩, rfl, e1, g1, x0, x1, x2, x3, x4⟩ := hL.at HX.out
        obtain rfl : m3 = m1 := e1
        obtain ⟨a2, ⟨kv2, sv2, m4⟩, ha2, e2, g2, y0, y1, y2, y3, y4⟩ := hL.at hHX
        obtain rfl : m4 = m2 := e2
        obtain rfl : a1 = a2 := Option.some.inj ha2
        obtain ⟨q5, d5, e3, -, -⟩ := g1.k.len
        obtain ⟨q6, d6, e4, -, -⟩ := g1.s.len
        obtain ⟨q7, d7, e5, -, -⟩ := g2.k.len
        obtain ⟨q8, d8, e6, -, -⟩ := g2.s.len
        simp only at e3 e4 e5 e6 x0 x1 x2 x3 x4 y0 y1 y2 y3 y4
        subst e3 e4 e5 e6
        have hf1 := HF.out m3 (List.mem_of_getElem? HX.out)
        have hf2 := HF.out m4 (List.mem_of_getElem? hHX)
        have hST := same_two (X := W5.drew) (la := [⟨.slice q1 m3.ks.length d1, .slice q2 m3.ss.length d2, m3⟩, ⟨.slice q3 m4.ks.length d3, .slice q4 m4.ss.length d4, m4⟩]) (lb := [⟨.slice q5 m3.ks.length d5, .slice q6 m3.ss.length d6, m3⟩, ⟨.slice q7 m4.ks.length d7, .slice q8 m4.ss.length d8, m4⟩]) (n := 2)
          (fun r hr => by
            simp at hr
            rcases hr with rfl | rfl
            · exact (hM6.below (Below.refl _ W5).drew).mono (fun _ _ _ => trivial)
            · exact (hN6.below (Below.refl _ W5).drew).mono (fun _ _ _ => trivial))
          (fun r hr => by
            simp at hr
            rcases hr with rfl | rfl
            · exact (g1.below (Below.refl _ W5).drew).mono (fun _ _ _ => trivial)
            · exact (g2.below (Below.refl _ W5).drew).mono (fun _ _ _ => trivial)) rfl
          (fun r hr => by
            simp at hr
            rcases hr with rfl | rfl
            · exact hf1
            · exact hf2) rfl rfl (by decide)
        have HST := Lib.hid hST
        have HA6 := Lib.hid hA6
        have HC6 := Lib.hid hC6
        have HK6 := Lib.hid hK6
        have H10 := Lib.hid h10'
        have H12 := Lib.hid b12
        have n1 : wrap64 ((l.length : Int) - 1) = (l.length : Int) - 1 := IntWalk.wrap64_in _ ⟨by omega, by omega⟩
        have n2 : wrap64 ((l.length : Int) - 1 - (k : Int)) = (j : Int) := by rw [IntWalk.wrap64_in _ ⟨by omega, by omega⟩]; omega
        have n3 : IntKind.i64.wrap ((l.length : Int) - 1) = (l.length : Int) - 1 := IntWalk.i64_in _ ⟨by omega, by omega⟩
        have n4 : IntKind.i64.wrap ((l.length : Int) - 1 - (k : Int)) = (j : Int) := by rw [IntWalk.i64_in _ ⟨by omega, by omega⟩]; omega
        have hjj : (j : Int) < (l.length : Int) := by omega
        have HJ := Lib.hid hj
        clear hL g1 g2 hHX hST hA6 hC6 hM6 hN6 hK6 h10' b12 hf1 hf2 HX hj ha2
        refine anyH_start 26 (fun w' => Below W5.heap.size W5 w') (by kernel_rfl) rfl ?_
        have hb0 : Below W5.heap.size W5 W5.drew := (Below.refl _ W5).drew
        obtain ⟨X, hX⟩ : ∃ X, W5.drew = X := ⟨_, rfl⟩
        rw [hX] at hb0 HST ⊢
        have hXs : W5.heap.size ≤ X.heap.size := hb0.size
        clear hX
        ((first | (refine anyH_free (i := 0) (v := ?_) rfl (by kernel_rfl) (fun _ _ _ h => h) (Or.inl ⟨rfl, fun w' hS => ?_⟩) hb0 ?_; rotate_left; ((have c10 := (H10.out.below hS).rd.1; have c12 := (H12.out.below hS).rd.1; have x0 := cell_below x0 hS; have x1 := cell_below x1 hS; have x2 := cell_below x2 hS; have x3 := cell_below x3 hS; have x4 := cell_below x4 hS; have y0 := cell_below y0 hS; have y1 := cell_below y1 hS; have y2 := cell_below y2 hS; have y3 := cell_below y3 hS; have y4 := cell_below y4 hS); go_simp <;> with_reducible rfl)) | (refine anyH_free (i := 0) (v := undef) rfl (by kernel_rfl) (fun _ _ _ h => h) (Or.inr ⟨rfl, rfl⟩) hb0 ?_)); (simp only [Act.put, List.setIfInBounds_toArray, List.set_cons_zero, List.set_cons_succ])); ((first | (refine anyH_free (i := 1) (v := ?_) rfl (by kernel_rfl) (fun _ _ _ h => h) (Or.inl ⟨rfl, fun w' hS => ?_⟩) hb0 ?_; rotate_left; ((have c10 := (H10.out.below hS).rd.1; have c12 := (H12.out.below hS).rd.1; have x0 := cell_below x0 hS; have x1 := cell_below x1 hS; have x2 := cell_below x2 hS; have x3 := cell_below x3 hS; have x4 := cell_below x4 hS; have y0 := cell_below y0 hS; have y1 := cell_below y1 hS; have y2 := cell_below y2 hS; have y3 := cell_below y3 hS; have y4 := cell_below y4 hS); go_simp <;> with_reducible rfl)) | (refine anyH_free (i := 1) (v := undef) rfl (by kernel_rfl) (fun _ _ _ h => h) (Or.inr ⟨rfl, rfl⟩) hb0 ?_)); (simp only [Act.put, List.setIfInBounds_toArray, List.set_cons_zero, List.set_cons_succ])); ((first | (refine anyH_free (i := 2) (v := ?_) rfl (by kernel_rfl) (fun _ _ _ h => h) (Or.inl ⟨rfl, fun w' hS => ?_⟩) hb0 ?_; rotate_left; ((have c10 := (H10.out.below hS).rd.1; have c12 := (H12.out.below hS).rd.1; have x0 := cell_below x0 hS; have x1 := cell_below x1 hS; have x2 := cell_below x2 hS; have x3 := cell_below x3 hS; have x4 := cell_below x4 hS; have y0 := cell_below y0 hS; have y1 := cell_below y1 hS; have y2 := cell_below y2 hS; have y3 := cell_below y3 hS; have y4 := cell_below y4 hS); go_simp <;> with_reducible rfl)) | (refine anyH_free (i := 2) (v := undef) rfl (by kernel_rfl) (fun _ _ _ h => h) (Or.inr ⟨rfl, rfl⟩) hb0 ?_)); (simp only [Act.put, List.setIfInBounds_toArray, List.set_cons_zero, List.set_cons_succ])); ((first | (refine anyH_free (i := 3) (v := ?_) rfl (by kernel_rfl) (fun _ _ _ h => h) (Or.inl ⟨rfl, fun w' hS => ?_⟩) hb0 ?_; rotate_left; ((have c10 := (H10.out.below hS).rd.1; have c12 := (H12.out.below hS).rd.1; have x0 := cell_below x0 hS; have x1 := cell_below x1 hS; have x2 := cell_below x2 hS; have x3 := cell_below x3 hS; have x4 := cell_below x4 hS; have y0 := cell_below y0 hS; have y1 := cell_below y1 hS; have y2 := cell_below y2 hS; have y3 := cell_below y3 hS; have y4 := cell_below y4 hS); go_simp <;> with_reducible rfl)) | (refine anyH_free (i := 3) (v := undef) rfl (by kernel_rfl) (fun _ _ _ h => h) (Or.inr ⟨rfl, rfl⟩) hb0 ?_)); (simp only [Act.put, List.setIfInBounds_toArray, List.set_cons_zero, List.set_cons_succ])); ((first | (refine anyH_free (i := 4) (v := ?_) rfl (by kernel_rfl) (fun _ _ _ h => h) (Or.inl ⟨rfl, fun w' hS => ?_⟩) hb0 ?_; rotate_left; ((have c10 := (H10.out.below hS).rd.1; have c12 := (H12.out.below hS).rd.1; have x0 := cell_below x0 hS; have x1 := cell_below x1 hS; have x2 := cell_below x2 hS; have x3 := cell_below x3 hS; have x4 := cell_below x4 hS; have y0 := cell_below y0 hS; have y1 := cell_below y1 hS; have y2 := cell_below y2 hS; have y3 := cell_below y3 hS; have y4 := cell_below y4 hS); go_simp <;> with_reducible rfl)) | (refine anyH_free (i := 4) (v := undef) rfl (by kernel_rfl) (fun _ _ _ h => h) (Or.inr ⟨rfl, rfl⟩) hb0 ?_)); (simp only [Act.put, List.setIfInBounds_toArray, List.set_cons_zero, List.set_cons_succ])); ((first | (refine anyH_free (i := 5) (v := ?_) rfl (by kernel_rfl) (fun _ _ _ h => h) (Or.inl ⟨rfl, fun w' hS => ?_⟩) hb0 ?_; rotate_left; ((have c10 := (H10.out.below hS).rd.1; have c12 := (H12.out.below hS).rd.1; have x0 := cell_below x0 hS; have x1 := cell_below x1 hS; have x2 := cell_below x2 hS; have x3 := cell_below x3 hS; have x4 := cell_below x4 hS; have y0 := cell_below y0 hS; have y1 := cell_below y1 hS; have y2 := cell_below y2 hS; have y3 := cell_below y3 hS; have y4 := cell_below y4 hS); go_simp <;> with_reducible rfl)) | (refine anyH_free (i := 5) (v := undef) rfl (by kernel_rfl) (fun _ _ _ h => h) (Or.inr ⟨rfl, rfl⟩) hb0 ?_)); (simp only [Act.put, List.setIfInBounds_toArray, List.set_cons_zero, List.set_cons_succ])); ((first | (refine anyH_free (i := 6) (v := ?_) rfl (by kernel_rfl) (fun _ _ _ h => h) (Or.inl ⟨rfl, fun w' hS => ?_⟩) hb0 ?_; rotate_left; ((have c10 := (H10.out.below hS).rd.1; have c12 := (H12.out.below hS).rd.1; have x0 := cell_below x0 hS; have x1 := cell_below x1 hS; have x2 := cell_below x2 hS; have x3 := cell_below x3 hS; have x4 := cell_below x4 hS; have y0 := cell_below y0 hS; have y1 := cell_below y1 hS; have y2 := cell_below y2 hS; have y3 := cell_below y3 hS; have y4 := cell_below y4 hS); go_simp <;> with_reducible rfl)) | (refine anyH_free (i := 6) (v := undef) rfl (by kernel_rfl) (fun _ _ _ h => h) (Or.inr ⟨rfl, rfl⟩) hb0 ?_)); (simp only [Act.put, List.setIfInBounds_toArray, List.set_cons_zero, List.set_cons_succ])); ((first | (refine anyH_free (i := 7) (v := ?_) rfl (by kernel_rfl) (fun _ _ _ h => h) (Or.inl ⟨rfl, fun w' hS => ?_⟩) hb0 ?_; rotate_left; ((have c10 := (H10.out.below hS).rd.1; have c12 := (H12.out.below hS).rd.1; have x0 := cell_below x0 hS; have x1 := cell_below x1 hS; have x2 := cell_below x2 hS; have x3 := cell_below x3 hS; have x4 := cell_below x4 hS; have y0 := cell_below y0 hS; have y1 := cell_below y1 hS; have y2 := cell_below y2 hS; have y3 := cell_below y3 hS; have y4 := cell_below y4 hS); go_simp <;> with_reducible rfl)) | (refine anyH_free (i := 7) (v := undef) rfl (by kernel_rfl) (fun _ _ _ h => h) (Or.inr ⟨rfl, rfl⟩) hb0 ?_)); (simp only [Act.put, List.setIfInBounds_toArray, List.set_cons_zero, List.set_cons_succ])); ((first | (refine anyH_free (i := 8) (v := ?_) rfl (by kernel_rfl) (fun _ _ _ h => h) (Or.inl ⟨rfl, fun w' hS => ?_⟩) hb0 ?_; rotate_left; ((have c10 := (H10.out.below hS).rd.1; have c12 := (H12.out.below hS).rd.1; have x0 := cell_below x0 hS; have x1 := cell_below x1 hS; have x2 := cell_below x2 hS; have x3 := cell_below x3 hS; have x4 := cell_below x4 hS; have y0 := cell_below y0 hS; have y1 := cell_below y1 hS; have y2 := cell_below y2 hS; have y3 := cell_below y3 hS; have y4 := cell_below y4 hS); go_simp <;> with_reducible rfl)) | (refine anyH_free (i := 8) (v := undef) rfl (by kernel_rfl) (fun _ _ _ h => h) (Or.inr ⟨rfl, rfl⟩) hb0 ?_)); (simp only [Act.put, List.setIfInBounds_toArray, List.set_cons_zero, List.set_cons_succ])); ((first | (refine anyH_free (i := 10) (v := ?_) rfl (by kernel_rfl) (fun _ _ _ h => h) (Or.inl ⟨rfl, fun w' hS => ?_⟩) hb0 ?_; rotate_left; ((have c10 := (H10.out.below hS).rd.1; have c12 := (H12.out.below hS).rd.1; have x0 := cell_below x0 hS; have x1 := cell_below x1 hS; have x2 := cell_below x2 hS; have x3 := cell_below x3 hS; have x4 := cell_below x4 hS; have y0 := cell_below y0 hS; have y1 := cell_below y1 hS; have y2 := cell_below y2 hS; have y3 := cell_below y3 hS; have y4 := cell_below y4 hS); go_simp <;> with_reducible rfl)) | (refine anyH_free (i := 10) (v := undef) rfl (by kernel_rfl) (fun _ _ _ h => h) (Or.inr ⟨rfl, rfl⟩) hb0 ?_)); (simp only [Act.put, List.setIfInBounds_toArray, List.set_cons_zero, List.set_cons_succ])); ((first | (refine anyH_free (i := 11) (v := ?_) rfl (by kernel_rfl) (fun _ _ _ h => h) (Or.inl ⟨rfl, fun w' hS => ?_⟩) hb0 ?_; rotate_left; ((have c10 := (H10.out.below hS).rd.1; have c12 := (H12.out.below hS).rd.1; have x0 := cell_below x0 hS; have x1 := cell_below x1 hS; have x2 := cell_below x2 hS; have x3 := cell_below x3 hS; have x4 := cell_below x4 hS; have y0 := cell_below y0 hS; have y1 := cell_below y1 hS; have y2 := cell_below y2 hS; have y3 := cell_below y3 hS; have y4 := cell_below y4 hS); go_simp <;> with_reducible rfl)) | (refine anyH_free (i := 11) (v := undef) rfl (by kernel_rfl) (fun _ _ _ h => h) (Or.inr ⟨rfl, rfl⟩) hb0 ?_)); (simp only [Act.put, List.setIfInBounds_toArray, List.set_cons_zero, List.set_cons_succ])); ((first | (refine anyH_free (i := 12) (v := ?_) rfl (by kernel_rfl) (fun _ _ _ h => h) (Or.inl ⟨rfl, fun w' hS => ?_⟩) hb0 ?_; rotate_left; ((have c10 := (H10.out.below hS).rd.1; have c12 := (H12.out.below hS).rd.1; have x0 := cell_below x0 hS; have x1 := cell_below x1 hS; have x2 := cell_below x2 hS; have x3 := cell_below x3 hS; have x4 := cell_below x4 hS; have y0 := cell_below y0 hS; have y1 := cell_below y1 hS; have y2 := cell_below y2 hS; have y3 := cell_below y3 hS; have y4 := cell_below y4 hS); go_simp <;> with_reducible rfl)) | (refine anyH_free (i := 12) (v := undef) rfl (by kernel_rfl) (fun _ _ _ h => h) (Or.inr ⟨rfl, rfl⟩) hb0 ?_)); (simp only [Act.put, List.setIfInBounds_toArray, List.set_cons_zero, List.set_cons_succ])); ((first | (refine anyH_free (i := 13) (v := ?_) rfl (by kernel_rfl) (fun _ _ _ h => h) (Or.inl ⟨rfl, fun w' hS => ?_⟩) hb0 ?_; rotate_left; ((have c10 := (H10.out.below hS).rd.1; have c12 := (H12.out.below hS).rd.1; have x0 := cell_below x0 hS; have x1 := cell_below x1 hS; have x2 := cell_below x2 hS; have x3 := cell_below x3 hS; have x4 := cell_below x4 hS; have y0 := cell_below y0 hS; have y1 := cell_below y1 hS; have y2 := cell_below y2 hS; have y3 := cell_below y3 hS; have y4 := cell_below y4 hS); go_simp <;> with_reducible rfl)) | (refine anyH_free (i := 13) (v := undef) rfl (by kernel_rfl) (fun _ _ _ h => h) (Or.inr ⟨rfl, rfl⟩) hb0 ?_)); (simp only [Act.put, List.setIfInBounds_toArray, List.set_cons_zero, List.set_cons_succ])); ((first | (refine anyH_free (i := 14) (v := ?_) rfl (by kernel_rfl) (fun _ _ _ h => h) (Or.inl ⟨rfl, fun w' hS => ?_⟩) hb0 ?_; rotate_left; ((have c10 := (H10.out.below hS).rd.1; have c12 := (H12.out.below hS).rd.1; have x0 := cell_below x0 hS; have x1 := cell_below x1 hS; have x2 := cell_below x2 hS; have x3 := cell_below x3 hS; have x4 := cell_below x4 hS; have y0 := cell_below y0 hS; have y1 := cell_below y1 hS; have y2 := cell_below y2 hS; have y3 := cell_below y3 hS; have y4 := cell_below y4 hS); go_simp <;> with_reducible rfl)) | (refine anyH_free (i := 14) (v := undef) rfl (by kernel_rfl) (fun _ _ _ h => h) (Or.inr ⟨rfl, rfl⟩) hb0 ?_)); (simp only [Act.put, List.setIfInBounds_toArray, List.set_cons_zero, List.set_cons_succ])); ((first | (refine anyH_free (i := 15) (v := ?_) rfl (by kernel_rfl) (fun _ _ _ h => h) (Or.inl ⟨rfl, fun w' hS => ?_⟩) hb0 ?_; rotate_left; ((have c10 := (H10.out.below hS).rd.1; have c12 := (H12.out.below hS).rd.1; have x0 := cell_below x0 hS; have x1 := cell_below x1 hS; have x2 := cell_below x2 hS; have x3 := cell_below x3 hS; have x4 := cell_below x4 hS; have y0 := cell_below y0 hS; have y1 := cell_below y1 hS; have y2 := cell_below y2 hS; have y3 := cell_below y3 hS; have y4 := cell_below y4 hS); go_simp <;> with_reducible rfl)) | (refine anyH_free (i := 15) (v := undef) rfl (by kernel_rfl) (fun _ _ _ h => h) (Or.inr ⟨rfl, rfl⟩) hb0 ?_)); (simp only [Act.put, List.setIfInBounds_toArray, List.set_cons_zero, List.set_cons_succ])); ((first | (refine anyH_free (i := 16) (v := ?_) rfl (by kernel_rfl) (fun _ _ _ h => h) (Or.inl ⟨rfl, fun w' hS => ?_⟩) hb0 ?_; rotate_left; ((have c10 := (H10.out.below hS).rd.1; have c12 := (H12.out.below hS).rd.1; have x0 := cell_below x0 hS; have x1 := cell_below x1 hS; have x2 := cell_below x2 hS; have x3 := cell_below x3 hS; have x4 := cell_below x4 hS; have y0 := cell_below y0 hS; have y1 := cell_below y1 hS; have y2 := cell_below y2 hS; have y3 := cell_below y3 hS; have y4 := cell_below y4 hS); go_simp <;> with_reducible rfl)) | (refine anyH_free (i := 16) (v := undef) rfl (by kernel_rfl) (fun _ _ _ h => h) (Or.inr ⟨rfl, rfl⟩) hb0 ?_)); (simp only [Act.put, List.setIfInBounds_toArray, List.set_cons_zero, List.set_cons_succ])); ((first | (refine anyH_free (i := 17) (v := ?_) rfl (by kernel_rfl) (fun _ _ _ h => h) (Or.inl ⟨rfl, fun w' hS => ?_⟩) hb0 ?_; rotate_left; ((have c10 := (H10.out.below hS).rd.1; have c12 := (H12.out.below hS).rd.1; have x0 := cell_below x0 hS; have x1 := cell_below x1 hS; have x2 := cell_below x2 hS; have x3 := cell_below x3 hS; have x4 := cell_below x4 hS; have y0 := cell_below y0 hS; have y1 := cell_below y1 hS; have y2 := cell_below y2 hS; have y3 := cell_below y3 hS; have y4 := cell_below y4 hS); go_simp <;> with_reducible rfl)) | (refine anyH_free (i := 17) (v := undef) rfl (by kernel_rfl) (fun _ _ _ h => h) (Or.inr ⟨rfl, rfl⟩) hb0 ?_)); (simp only [Act.put, List.setIfInBounds_toArray, List.set_cons_zero, List.set_cons_succ])); ((first | (refine anyH_free (i := 18) (v := ?_) rfl (by kernel_rfl) (fun _ _ _ h => h) (Or.inl ⟨rfl, fun w' hS => ?_⟩) hb0 ?_; rotate_left; ((have c10 := (H10.out.below hS).rd.1; have c12 := (H12.out.below hS).rd.1; have x0 := cell_below x0 hS; have x1 := cell_below x1 hS; have x2 := cell_below x2 hS; have x3 := cell_below x3 hS; have x4 := cell_below x4 hS; have y0 := cell_below y0 hS; have y1 := cell_below y1 hS; have y2 := cell_below y2 hS; have y3 := cell_below y3 hS; have y4 := cell_below y4 hS); go_simp <;> with_reducible rfl)) | (refine anyH_free (i := 18) (v := undef) rfl (by kernel_rfl) (fun _ _ _ h => h) (Or.inr ⟨rfl, rfl⟩) hb0 ?_)); (simp only [Act.put, List.setIfInBounds_toArray, List.set_cons_zero, List.set_cons_succ])); ((first | (refine anyH_free (i := 19) (v := ?_) rfl (by kernel_rfl) (fun _ _ _ h => h) (Or.inl ⟨rfl, fun w' hS => ?_⟩) hb0 ?_; rotate_left; ((have c10 := (H10.out.below hS).rd.1; have c12 := (H12.out.below hS).rd.1; have x0 := cell_below x0 hS; have x1 := cell_below x1 hS; have x2 := cell_below x2 hS; have x3 := cell_below x3 hS; have x4 := cell_below x4 hS; have y0 := cell_below y0 hS; have y1 := cell_below y1 hS; have y2 := cell_below y2 hS; have y3 := cell_below y3 hS; have y4 := cell_below y4 hS); go_simp <;> with_reducible rfl)) | (refine anyH_free (i := 19) (v := undef) rfl (by kernel_rfl) (fun _ _ _ h => h) (Or.inr ⟨rfl, rfl⟩) hb0 ?_)); (simp only [Act.put, List.setIfInBounds_toArray, List.set_cons_zero, List.set_cons_succ])); ((first | (refine anyH_free (i := 20) (v := ?_) rfl (by kernel_rfl) (fun _ _ _ h => h) (Or.inl ⟨rfl, fun w' hS => ?_⟩) hb0 ?_; rotate_left; ((have c10 := (H10.out.below hS).rd.1; have c12 := (H12.out.below hS).rd.1; have x0 := cell_below x0 hS; have x1 := cell_below x1 hS; have x2 := cell_below x2 hS; have x3 := cell_below x3 hS; have x4 := cell_below x4 hS; have y0 := cell_below y0 hS; have y1 := cell_below y1 hS; have y2 := cell_below y2 hS; have y3 := cell_below y3 hS; have y4 := cell_below y4 hS); go_simp <;> with_reducible rfl)) | (refine anyH_free (i := 20) (v := undef) rfl (by kernel_rfl) (fun _ _ _ h => h) (Or.inr ⟨rfl, rfl⟩) hb0 ?_)); (simp only [Act.put, List.setIfInBounds_toArray, List.set_cons_zero, List.set_cons_succ])); ((first | (refine anyH_free (i := 21) (v := ?_) rfl (by kernel_rfl) (fun _ _ _ h => h) (Or.inl ⟨rfl, fun w' hS => ?_⟩) hb0 ?_; rotate_left; ((have c10 := (H10.out.below hS).rd.1; have c12 := (H12.out.below hS).rd.1; have x0 := cell_below x0 hS; have x1 := cell_below x1 hS; have x2 := cell_below x2 hS; have x3 := cell_below x3 hS; have x4 := cell_below x4 hS; have y0 := cell_below y0 hS; have y1 := cell_below y1 hS; have y2 := cell_below y2 hS; have y3 := cell_below y3 hS; have y4 := cell_below y4 hS); go_simp <;> with_reducible rfl)) | (refine anyH_free (i := 21) (v := undef) rfl (by kernel_rfl) (fun _ _ _ h => h) (Or.inr ⟨rfl, rfl⟩) hb0 ?_)); (simp only [Act.put, List.setIfInBounds_toArray, List.set_cons_zero, List.set_cons_succ]))
        refine anyH_two (i := 9) (j := 22) rfl rfl (by kernel_rfl) rfl rfl (fun K hK => ?_) (fun K hK => ?_)
        · go_simp
          refine hK _ _ (hb0.alloc hXs _) ?_
          clear hK K
          refine anyH_sole (i := 22) rfl (by kernel_rfl) rfl (fun K hK => ?_)
          go_simp
          refine hK _ _ ((hb0.alloc hXs _).alloc (by simp; omega) _) ?_
          clear hK K
          refine anyH_sole (i := 23) rfl (by kernel_rfl) rfl (fun K hK => ?_)
          go_simp
          refine HST.out.1.mono ?_
          rintro e w9 ⟨rfl, hb⟩
          have hb9 := ((hb0.alloc hXs _).alloc (by simp; omega) _).trans (hb.mono (by simp; omega))
          refine hK _ _ hb9 ?_
          clear hK K hb
          ((first | (refine anyH_free (i := 24) (v := ?_) rfl (by kernel_rfl) (fun _ _ _ h => h) (Or.inl ⟨rfl, fun w' hS => ?_⟩) hb9 ?_; rotate_left; (skip; go_simp <;> with_reducible rfl)) | (refine anyH_free (i := 24) (v := undef) rfl (by kernel_rfl) (fun _ _ _ h => h) (Or.inr ⟨rfl, rfl⟩) hb9 ?_)); (simp only [Act.put, List.setIfInBounds_toArray, List.set_cons_zero, List.set_cons_succ])); ((first | (refine anyH_free (i := 25) (v := ?_) rfl (by kernel_rfl) (fun _ _ _ h => h) (Or.inl ⟨rfl, fun w' hS => ?_⟩) hb9 ?_; rotate_left; (skip; go_simp <;> with_reducible rfl)) | (refine anyH_free (i := 25) (v := undef) rfl (by kernel_rfl) (fun _ _ _ h => h) (Or.inr ⟨rfl, rfl⟩) hb9 ?_)); (simp only [Act.put, List.setIfInBounds_toArray, List.set_cons_zero, List.set_cons_succ]))
          refine anyH_done (by kernel_rfl) ?_
          have HA9 := Lib.hid (HA6.out.below hb9)
          have HC9 := Lib.hid (HC6.out.below hb9)
          have HK9 := Lib.hid (HK6.out.later hb9)
          have HJ2 : Hid (l.length - (k + 1) = j) := Lib.hid (by have := HJ.out; omega)
          clear hb9 hb0 x0 x1 x2 x3 x4 y0 y1 y2 y3 y4 HST
          go_wp2_with fail
          exact ⟨⟨k + 1, by simp, by omega, HA9.out, by rw [HJ2.out]; exact HC9.out, HK9.out⟩, by simp [intOf]; omega⟩
        · go_simp
          refine hK _ _ (hb0.alloc hXs _) ?_
          clear hK K
          refine anyH_sole (i := 9) rfl (by kernel_rfl) rfl (fun K hK => ?_)
          go_simp
          refine hK _ _ ((hb0.alloc hXs _).alloc (by simp; omega) _) ?_
          clear hK K
          refine anyH_sole (i := 23) rfl (by kernel_rfl) rfl (fun K hK => ?_)
          go_simp
          refine HST.out.2.mono ?_
          rintro e w9 ⟨rfl, hb⟩
          have hb9 := ((hb0.alloc hXs _).alloc (by simp; omega) _).trans (hb.mono (by simp; omega))
          refine hK _ _ hb9 ?_
          clear hK K hb
          ((first | (refine anyH_free (i := 24) (v := ?_) rfl (by kernel_rfl) (fun _ _ _ h => h) (Or.inl ⟨rfl, fun w' hS => ?_⟩) hb9 ?_; rotate_left; (skip; go_simp <;> with_reducible rfl)) | (refine anyH_free (i := 24) (v := undef) rfl (by kernel_rfl) (fun _ _ _ h => h) (Or.inr ⟨rfl, rfl⟩) hb9 ?_)); (simp only [Act.put, List.setIfInBounds_toArray, List.set_cons_zero, List.set_cons_succ])); ((first | (refine anyH_free (i := 25) (v := ?_) rfl (by kernel_rfl) (fun _ _ _ h => h) (Or.inl ⟨rfl, fun w' hS => ?_⟩) hb9 ?_; rotate_left; (skip; go_simp <;> with_reducible rfl)) | (refine anyH_free (i := 25) (v := undef) rfl (by kernel_rfl) (fun _ _ _ h => h) (Or.inr ⟨rfl, rfl⟩) hb9 ?_)); (simp only [Act.put, List.setIfInBounds_toArray, List.set_cons_zero, List.set_cons_succ]))
          refine anyH_done (by kernel_rfl) ?_
          have HA9 := Lib.hid (HA6.out.below hb9)
          have HC9 := Lib.hid (HC6.out.below hb9)
          have HK9 := Lib.hid (HK6.out.later hb9)
          have HJ2 : Hid (l.length - (k + 1) = j) := Lib.hid (by have := HJ.out; omega)
          clear hb9 hb0 x0 x1 x2 x3 x4 y0 y1 y2 y3 y4 HST
          go_wp2_with fail
          exact ⟨⟨k + 1, by simp, by omega, HA9.out, by rw [HJ2.out]; exact HC9.out, HK9.out⟩, by simp [intOf]; omega⟩
      · obtain rfl : k = l.length := by omega
        have e1 : l.drop l.length = [] := List.drop_length
        have e2 : l.take (l.length - l.length) = [] := by rw [Nat.sub_self, List.take_zero]
        rw [e1] at hA
        rw [e2] at hC
        have HB := Lib.hid (HB3.out.trans (hK.below (fun b s => by omega) HB3.out.size))
        have HLA := Lib.hid (len_m hA)
        have HLC := Lib.hid (len_m hC)
        clear e1 e2 hA hC hK
        go_wp2_with fail
        refine HLA.out.mono ?_
        rintro e w5 ⟨rfl, rfl⟩
        go_wp2_with fail
        refine HLC.out.mono ?_
        rintro e w5 ⟨rfl, rfl⟩
        go_wp2_with fail
        go_ret
        exact ⟨rfl, HB.out⟩
  · have h1' : (16 : Int) < (l.length : Int) := by omega
    clear h1 HL
    go_enter Try.func4, Try.ntmps4
    go_wp2_with fail
    refine (awake_any _).mono ?_
    rintro e w1 ⟨rfl, hb⟩
    have HB := Lib.hid hb
    clear hb
    go_wp2_with fail
    go_ret
    exact ⟨rfl, HB.out⟩
end Go.Proofs.Ytmmneeikcnapmaa
