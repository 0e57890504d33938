/- NetOrder's walk -/
import Derived.Test.YtmmneeikcnapmaaNFst
namespace Go.Proofs.Ytmmneeikcnapmaa
open Go.RowKit
attribute [local go_sem] Oper.semAt_some

section
variable {α : Type} {S : Nat → Prop} {W : World} {size : Nat} {enc : α → List Value} {xs : List α} {a : Addr}
theorem RowAt.take (h : RowAt W a size enc xs) (k : Nat) : RowAt W a size enc (xs.take k) := fun i x hx => h i x (by
  rw [List.getElem?_take] at hx
  split at hx
  · exact hx
  · cases hx)
theorem RowAt.drop (h : RowAt W a size enc xs) (k : Nat) : RowAt W (a.add (k * size)) size enc (xs.drop k) := fun i x hx j u hu => by
  rw [List.getElem?_drop] at hx
  have := h (k + i) x hx j u hu
  rw [Addr.add_add a]
  rwa [Nat.add_mul] at this
/-- l[:k] -/
theorem Sl.head {n c k : Nat} (h : Sl S W (.slice (some a) n c) size enc xs) (hk : k ≤ n) : Sl S W (.slice (some a) k c) size enc (xs.take k) := by
  rcases h with ⟨h, _⟩ | ⟨a', cap, h, h1, h2, h3, h4⟩
  · cases h
  · simp only [Value.slice.injEq, Option.some.injEq] at h
    obtain ⟨rfl, rfl, rfl⟩ := h
    have hl : (xs.take k).length = k := by rw [List.length_take]; omega
    exact .inr ⟨a, c, by rw [hl], fun hp => h1 (by omega), by omega, h3, h4.take k⟩
/-- l[k:] -/
theorem Sl.tail {n c k : Nat} (h : Sl S W (.slice (some a) n c) size enc xs) (hk : k ≤ n) : ∃ A, (if c = k then some a else some (a.add (k * size))) = some A ∧ Sl S W (.slice (some A) (n - k) (c - k)) size enc (xs.drop k) := by
  rcases h with ⟨h, _⟩ | ⟨a', cap, h, h1, h2, h3, h4⟩
  · cases h
  · simp only [Value.slice.injEq, Option.some.injEq] at h
    obtain ⟨rfl, rfl, rfl⟩ := h
    have hl : (xs.drop k).length = xs.length - k := List.length_drop
    by_cases hc : c = k
    · refine ⟨a, by rw [if_pos hc], .inr ⟨a, c - k, by rw [hl], fun hp => ?_, by omega, by omega, fun i x hx => ?_⟩⟩
      · omega
      · rw [List.drop_of_length_le (by omega)] at hx
        simp at hx
    · exact ⟨_, by rw [if_neg hc], .inr ⟨_, c - k, by rw [hl], fun hp => by rw [add_block']; exact h1 (by omega), by omega, by omega, h4.drop k⟩⟩
/-- l[k:k+1] -/
theorem Sl.mid {n c k : Nat} {x : α} (h : Sl S W (.slice (some a) n c) size enc xs) (hx : xs[k]? = some x) : Sl S W (.slice (some (a.add (k * size))) 1 (c - k)) size enc [x] := by
  rcases h with ⟨h, _⟩ | ⟨a', cap, h, h1, h2, h3, h4⟩
  · cases h
  · simp only [Value.slice.injEq, Option.some.injEq] at h
    obtain ⟨rfl, rfl, rfl⟩ := h
    have hk : k < xs.length := (List.getElem?_eq_some_iff.1 hx).1
    refine .inr ⟨_, c - k, rfl, fun hp => by rw [add_block']; exact h1 (by omega), by simp; omega, by omega, ?_⟩
    have := (h4.drop k).take 1
    have e : (xs.drop k).take 1 = [x] := by
      rw [List.drop_eq_getElem_cons hk]
      have := (List.getElem?_eq_some_iff.1 hx).2
      simp [this]
    rwa [e] at this
end
set_option maxRecDepth 100000 in
set_option maxHeartbeats 1000000 in
theorem netOrder_any {v : Value} {l : List Ms} {i : Int} {w : World} (h : Msl (fun _ => True) w v l) : Calls Try.prog 7 #[v, .int .i64 i] w (Tells (.bool true) w) := by
  obtain ⟨p1, c1, rfl⟩ := h.slice
  have HL := Lib.hid (h.mono (T := fun b => b < w.heap.size) (fun b hb _ => hb))
  clear h
  by_cases hok : l.length ≤ 16 ∧ 0 < l.length
  · obtain ⟨h1, h2⟩ := hok
    have h1' : ¬ (16 : Int) < (l.length : Int) := by omega
    have h2' : ((l.length : Int) == 0) = false := by rw [beq_eq_false_iff_ne]; omega
    go_enter Try.func7, Try.ntmps7
    go_wp2_with fail
    refine (awake_any _).mono ?_
    rintro e w1 ⟨rfl, hb⟩
    have HB := Lib.hid hb
    have HL1 := Lib.hid (HL.out.below hb)
    clear hb HL
    go_wp2_with fail
    go_loopw [5] (fun iv_ wr => ∃ k : Nat, iv_ = .int .i64 k ∧ k ≤ l.length ∧ (∀ x ∈ l.take k, Few x) ∧ Below w1.heap.size w1 wr) (fun iv_ _ => l.length - (intOf iv_).toNat)
    · exact ⟨0, rfl, by omega, (fun x hx => by simp at hx), Below.refl _ _⟩
    obtain ⟨k, rfl, hk, hF, hB⟩ := hrel
    by_cases hlt : k < l.length
    · obtain ⟨x, hx⟩ : ∃ x, l[k]? = some x := ⟨_, List.getElem?_eq_getElem hlt⟩
      obtain ⟨a1, ⟨kv, sv, m⟩, rfl, e1, g1, x0, x1, x2, x3, x4⟩ := (HL1.out.below hB).at hx
      obtain ⟨q1, d1, e3, -, -⟩ := g1.k.len
      obtain ⟨q2, d2, e4, -, -⟩ := g1.s.len
      simp only at e3 e4 x0 x1 x2 x3 x4
      subst e3 e4
      have hkk : (k : Int) < (l.length : Int) := by omega
      have HG := Lib.hid (big_any g1)
      have HS := Lib.hid (fun hf : Few m => few_snoc hF hx (e1 ▸ hf))
      have HBr := Lib.hid hB
      clear hx e1 g1 hF hB
      go_wp2_with fail
      refine HG.out.mono ?_
      rintro e w2 ⟨bg, rfl, hf, hb⟩
      have HB2 := Lib.hid (below_then HBr.out hb)
      clear hb HG x0 x1 x2 x3 x4
      cases bg with
      | true =>
        clear hf
        go_wp2_with fail
        go_ret
        exact ⟨rfl, below_then HB.out HB2.out⟩
      | false =>
        have HF2 := Lib.hid (HS.out (hf rfl))
        clear hf HS
        go_wp2_with fail
        exact ⟨⟨k + 1, by simp, by omega, HF2.out, HB2.out⟩, by simp [intOf]; omega⟩
    · obtain rfl : k = l.length := by omega
      rw [List.take_length] at hF
      have HF := Lib.hid hF
      have HL2 := Lib.hid (HL1.out.below hB)
      have HBr := Lib.hid (below_then HB.out hB)
      clear hF hB HL1 HB
      go_wp2_with fail
      refine (new_m HL2.out HF.out h1).mono ?_
      rintro e w2 ⟨rfl, hA, hb⟩
      have HL3 := Lib.hid (HL2.out.below hb)
      have HB2 := Lib.hid (below_then HBr.out hb)
      have hs1 := hb.size
      have hwr := HBr.out.size
      clear hb HL2
      have hln : ¬ l = [] := by
        rintro rfl
        simp at h2
      have hpl := pick_lt i h2
      have hpe := pick_eq i h2
      have htm := tmod_in i h2
      obtain ⟨k, hkd⟩ : ∃ k, pick i l.length = k := ⟨_, rfl⟩
      rw [hkd] at hpl hpe
      obtain ⟨t, ht⟩ : ∃ t, Int.tmod i l.length = t := ⟨_, rfl⟩
      rw [ht] at hpe htm
      have hww : IntKind.i64.wrap (t + (l.length : Int)) = t + l.length := IntWalk.i64_in _ ⟨by omega, by omega⟩
      have hww2 : wrap64 (t + (l.length : Int)) = t + l.length := IntWalk.wrap64_in _ ⟨by omega, by omega⟩
      have HKD := Lib.hid hkd
      clear hkd
      go_wp2_with fail
      refine (take_m hA h2 (by omega)).mono ?_
      rintro e w4 ⟨r, rfl, hx, hm, hA, hk4⟩
      rw [HKD.out] at hx hA
      clear hww hww2 hpe htm ht
      obtain ⟨kv, sv, m⟩ := r
      obtain ⟨q1, d1, e3, -, -⟩ := hm.k.len
      obtain ⟨q2, d2, e4, -, -⟩ := hm.s.len
      simp only at e3 e4 hx
      subst e3 e4
      have hfm : Few m := HF.out m (List.mem_of_getElem? hx)
      have HB4 := Lib.hid (HB2.out.trans (hk4.below (fun b s => by omega) HB2.out.size))
      have hL4 := HL3.out.kept hk4 (fun b _ s => by omega)
      have hs4 := hk4.size
      have b10 := Box.new w4 (mc ⟨.slice q1 m.ks.length d1, .slice q2 m.ss.length d2, m⟩) 33
      have hb10 : Below w4.heap.size w4 (w4.alloc (.cells (mc ⟨.slice q1 m.ks.length d1, .slice q2 m.ss.length d2, m⟩) 33)) := (Below.refl _ w4).alloc (Nat.le_refl _) _
      have hA5 := hA.below hb10
      have hM5 := hm.below hb10
      have hL5 := hL4.below hb10
      have hb5 := HB4.out.trans (hb10.mono HB4.out.size)
      obtain ⟨rs, hrs, hsl, hmo⟩ := hL5
      have hrl : rs.length = l.length := by rw [← hrs, List.length_map]
      obtain ⟨r0, hr0⟩ : ∃ r0, rs[k]? = some r0 := ⟨_, List.getElem?_eq_getElem (by omega)⟩
      have hr0m : r0.m = m := by
        rw [← hrs, List.getElem?_map, hr0] at hx
        exact Option.some.inj hx
      obtain ⟨a1, rfl, -, -, -⟩ := hsl.at hr0
      have hhd := hsl.head (k := k) (by omega)
      have hlk : (rs.take k).length = k := by rw [List.length_take]; omega
      have hld : (rs.drop (k + 1)).length = l.length - (k + 1) := by rw [List.length_drop, hrl]
      have hml : l.length ≤ c1 := by
        rcases hsl with ⟨h, _⟩ | ⟨a', cap, h, _, h2, _, _⟩
        · cases h
        · simp only [Value.slice.injEq] at h
          omega
      have HRS := Lib.hid hrs
      have HRL := Lib.hid hrl
      have HR0 := Lib.hid hr0
      have HR0M := Lib.hid hr0m
      have HLK := Lib.hid hlk
      have HLD := Lib.hid hld
      have HX := Lib.hid hx
      have HMO := Lib.hid hmo
      have k0 : (0 : Int) ≤ (k : Int) := by omega
      have k1 : (k : Int) ≤ (c1 : Int) := by omega
      have k2 : (0 : Int) ≤ (k : Int) + 1 := by omega
      have k3 : (k : Int) + 1 ≤ (l.length : Int) := by omega
      have k4 : (l.length : Int) ≤ (c1 : Int) := by omega
      have hkb : -9223372036854775808 ≤ (k : Int) + 1 ∧ (k : Int) + 1 ≤ 9223372036854775807 := ⟨by omega, by omega⟩
      have WK1 := Lib.hid (IntWalk.wrap64_in _ hkb)
      have WK2 := Lib.hid (IntWalk.i64_in _ hkb)
      clear hkb
      obtain ⟨W4, hW4⟩ : ∃ W4, (w4.alloc (.cells (mc ⟨.slice q1 m.ks.length d1, .slice q2 m.ss.length d2, m⟩) 33)) = W4 := ⟨_, rfl⟩
      rw [hW4] at b10 hb10 hA5 hM5 hsl hhd hb5 HMO
      have HW4 := Lib.hid hW4
      have hs5 := hb10.size
      have hl10 := b10.lt
      obtain ⟨i0, hi, hi0, hi1, hi2⟩ := info_parts info_msg
      have HI := Lib.hid hi
      have HI0 := Lib.hid hi0
      have HI1 := Lib.hid hi1
      have HI2 := Lib.hid hi2
      have HSL := Lib.hid hsl
      have HHD := Lib.hid hhd
      have hone : ∀ x ∈ rs, ∀ u ∈ encM x, u.oneCell' = true := fun x hx => (HMO.out x hx).oneCell
      have HONE := Lib.hid hone
      have HA5 := Lib.hid hA5
      have HM5 := Lib.hid hM5
      have HB5 := Lib.hid hb5
      have H10 := Lib.hid b10
      clear hx hm hA hL4 hk4 hW4 b10 hb10 hA5 hM5 hsl hhd hb5 hmo hrs hrl hr0 hr0m hlk hld hi hi0 hi1 hi2 hone HB4
      go_wp2_with (first | (at_builtin; rw [HW4.out]; refine wpList_append_sl encM_len rfl (.tmp 50) (.tmp 53) 22 rfl w.heap.size 33 i0 _ 80 Try.underlying22 HI.out HI0.out HI1.out HI2.out rfl (by decide) (v := .slice none 0 0) (xs := []) (ys := rs.take k) (by rfl) (by rfl) (World.ownsRow_nil _ _ _ _) HHD.out (fun x hx => HONE.out x (List.mem_of_mem_take hx)) (by rw [HLK.out]; unfold maxLen; simp; omega) (by rw [HLK.out]; simp; omega) HB5.out.size ?_; intro v1 w5 hown5 hk5 hat5; rw [List.nil_append, HLK.out] at hown5; obtain ⟨p3, c3, rfl⟩ := owns_slice hown5; have hbb5 := hk5.below (B := W4.heap.size) (fun b e => by simp [Value.ownBlock] at e) (Nat.le_refl _); have hs6 := hbb5.size; obtain ⟨A, hAA, htl⟩ := (HSL.out.below hbb5).tail (k := k + 1) (by omega); have HAA := Lib.hid hAA; have HTL := Lib.hid htl; have HO5 := Lib.hid hown5; have HAT5 := Lib.hid hat5; have HBB5 := Lib.hid hbb5; clear hown5 hk5 hat5 hbb5 hAA htl; have w1' := WK1.out; have w2' := WK2.out) | (at_builtin; rw [HAA.out]; clear w1' w2'; refine wpList_append_sl encM_len rfl (.tmp 55) (.tmp 59) 22 rfl w.heap.size 33 i0 _ 80 Try.underlying22 HI.out HI0.out HI1.out HI2.out rfl (by decide) (v := .slice p3 k c3) (xs := rs.take k) (ys := rs.drop (k + 1)) (by rfl) (by rfl) (by rw [HLK.out]; exact HO5.out) HTL.out (fun x hx => HONE.out x (List.mem_of_mem_drop hx)) (by rw [HLK.out, HLD.out]; unfold maxLen; omega) (by rw [HLK.out, HLD.out]; omega) (by have := HB5.out.size; omega) ?_; intro v2 w6 hown6 hk6 hat6; rw [← List.eraseIdx_eq_take_drop_succ] at hown6; obtain ⟨p4, c4, rfl⟩ := owns_slice hown6; have HO6 := Lib.hid hown6; have HK6 := Lib.hid hk6; clear hown6 hk6 hat6; have w1' := WK1.out; have w2' := WK2.out))
      clear w1' w2'
      have hfo : ∀ b, (Value.slice p3 k c3).ownBlock = some b → W4.heap.size ≤ b := fun b e => by
        rcases HAT5.out with h | h
        · rw [h] at e
          simp [Value.ownBlock] at e
        · rw [h] at e
          cases e
          exact Nat.le_refl _
      have hb6 : Below W4.heap.size W4 w6 := HBB5.out.trans (HK6.out.below hfo HBB5.out.size)
      have hs7 := hb6.size
      have hA6 := HA5.out.below hb6
      have hM6 := HM5.out.below hb6
      have hS6 := HSL.out.below hb6
      have h10 := H10.out.below hb6
      have hrest : Msl (fun _ => True) w6 (.slice p4 (rs.eraseIdx k).length c4) (l.eraseIdx k) := ⟨rs.eraseIdx k, by rw [← HRS.out, map_eraseIdx'], (Sl.owned encM_len HO6.out).mono (fun _ _ _ => trivial), fun r hr => ((HMO.out r (List.mem_of_mem_eraseIdx hr)).below hb6).mono (fun _ _ _ => trivial)⟩
      have hmid : Msl (fun _ => True) w6 (.slice (some (a1.add (k * 5))) 1 (c1 - k)) [m] := ⟨[r0], by rw [← HR0M.out]; rfl, (hS6.mid HR0.out).mono (fun _ _ _ => trivial), fun r hr => by
        simp at hr
        subst hr
        exact ((HMO.out r (List.mem_of_getElem? HR0.out)).below hb6).mono (fun _ _ _ => trivial)⟩
      have HB6 := Lib.hid (HB5.out.trans (hb6.mono HB5.out.size))
      have HA6 := Lib.hid hA6
      have HM6 := Lib.hid hM6
      have H6 := Lib.hid h10
      have HRE := Lib.hid hrest
      have HMI := Lib.hid hmid
      have hle : (l.eraseIdx k).length ≤ 100000 := by rw [List.length_eraseIdx_of_lt hpl]; omega
      have k5 : (k : Int) ≤ (k : Int) + 1 := by omega
      have k6 : (k : Int) + 1 ≤ (c1 : Int) := by omega
      have k7 : ¬ c1 = k := by omega
      have HFM := Lib.hid hfm
      clear hfo hb6 hA6 hM6 hS6 h10 hrest hmid hfm hA
      refine anyH_start 18 (fun w' => Below w6.heap.size w6 w') (by kernel_rfl) rfl ?_
      have hb0 : Below w6.heap.size w6 w6.drew := (Below.refl _ w6).drew
      obtain ⟨X, hX⟩ : ∃ X, w6.drew = X := ⟨_, rfl⟩
      rw [hX] at hb0 ⊢
      have hXs : w6.heap.size ≤ X.heap.size := hb0.size
      clear hX
      ((first | (refine anyH_free (i := 0) (v := ?_) rfl (by kernel_rfl) (fun _ _ _ h => h) (Or.inl ⟨rfl, fun w' hS => ?_⟩) hb0 ?_; rotate_left; ((have c10 := (H6.out.below hS).rd.1; have w1' := WK1.out; have w2' := WK2.out); go_simp <;> with_reducible rfl)) | (refine anyH_free (i := 0) (v := undef) rfl (by kernel_rfl) (fun _ _ _ h => h) (Or.inr ⟨rfl, rfl⟩) hb0 ?_)); (simp only [Act.put, List.setIfInBounds_toArray, List.set_cons_zero, List.set_cons_succ])); ((first | (refine anyH_free (i := 1) (v := ?_) rfl (by kernel_rfl) (fun _ _ _ h => h) (Or.inl ⟨rfl, fun w' hS => ?_⟩) hb0 ?_; rotate_left; ((have c10 := (H6.out.below hS).rd.1; have w1' := WK1.out; have w2' := WK2.out); go_simp <;> with_reducible rfl)) | (refine anyH_free (i := 1) (v := undef) rfl (by kernel_rfl) (fun _ _ _ h => h) (Or.inr ⟨rfl, rfl⟩) hb0 ?_)); (simp only [Act.put, List.setIfInBounds_toArray, List.set_cons_zero, List.set_cons_succ])); ((first | (refine anyH_free (i := 2) (v := ?_) rfl (by kernel_rfl) (fun _ _ _ h => h) (Or.inl ⟨rfl, fun w' hS => ?_⟩) hb0 ?_; rotate_left; ((have c10 := (H6.out.below hS).rd.1; have w1' := WK1.out; have w2' := WK2.out); go_simp <;> with_reducible rfl)) | (refine anyH_free (i := 2) (v := undef) rfl (by kernel_rfl) (fun _ _ _ h => h) (Or.inr ⟨rfl, rfl⟩) hb0 ?_)); (simp only [Act.put, List.setIfInBounds_toArray, List.set_cons_zero, List.set_cons_succ])); ((first | (refine anyH_free (i := 4) (v := ?_) rfl (by kernel_rfl) (fun _ _ _ h => h) (Or.inl ⟨rfl, fun w' hS => ?_⟩) hb0 ?_; rotate_left; ((have c10 := (H6.out.below hS).rd.1; have w1' := WK1.out; have w2' := WK2.out); go_simp <;> with_reducible rfl)) | (refine anyH_free (i := 4) (v := undef) rfl (by kernel_rfl) (fun _ _ _ h => h) (Or.inr ⟨rfl, rfl⟩) hb0 ?_)); (simp only [Act.put, List.setIfInBounds_toArray, List.set_cons_zero, List.set_cons_succ])); ((first | (refine anyH_free (i := 5) (v := ?_) rfl (by kernel_rfl) (fun _ _ _ h => h) (Or.inl ⟨rfl, fun w' hS => ?_⟩) hb0 ?_; rotate_left; ((have c10 := (H6.out.below hS).rd.1; have w1' := WK1.out; have w2' := WK2.out); go_simp <;> with_reducible rfl)) | (refine anyH_free (i := 5) (v := undef) rfl (by kernel_rfl) (fun _ _ _ h => h) (Or.inr ⟨rfl, rfl⟩) hb0 ?_)); (simp only [Act.put, List.setIfInBounds_toArray, List.set_cons_zero, List.set_cons_succ])); ((first | (refine anyH_free (i := 6) (v := ?_) rfl (by kernel_rfl) (fun _ _ _ h => h) (Or.inl ⟨rfl, fun w' hS => ?_⟩) hb0 ?_; rotate_left; ((have c10 := (H6.out.below hS).rd.1; have w1' := WK1.out; have w2' := WK2.out); go_simp <;> with_reducible rfl)) | (refine anyH_free (i := 6) (v := undef) rfl (by kernel_rfl) (fun _ _ _ h => h) (Or.inr ⟨rfl, rfl⟩) hb0 ?_)); (simp only [Act.put, List.setIfInBounds_toArray, List.set_cons_zero, List.set_cons_succ])); ((first | (refine anyH_free (i := 7) (v := ?_) rfl (by kernel_rfl) (fun _ _ _ h => h) (Or.inl ⟨rfl, fun w' hS => ?_⟩) hb0 ?_; rotate_left; ((have c10 := (H6.out.below hS).rd.1; have w1' := WK1.out; have w2' := WK2.out); go_simp <;> with_reducible rfl)) | (refine anyH_free (i := 7) (v := undef) rfl (by kernel_rfl) (fun _ _ _ h => h) (Or.inr ⟨rfl, rfl⟩) hb0 ?_)); (simp only [Act.put, List.setIfInBounds_toArray, List.set_cons_zero, List.set_cons_succ])); ((first | (refine anyH_free (i := 8) (v := ?_) rfl (by kernel_rfl) (fun _ _ _ h => h) (Or.inl ⟨rfl, fun w' hS => ?_⟩) hb0 ?_; rotate_left; ((have c10 := (H6.out.below hS).rd.1; have w1' := WK1.out; have w2' := WK2.out); go_simp <;> with_reducible rfl)) | (refine anyH_free (i := 8) (v := undef) rfl (by kernel_rfl) (fun _ _ _ h => h) (Or.inr ⟨rfl, rfl⟩) hb0 ?_)); (simp only [Act.put, List.setIfInBounds_toArray, List.set_cons_zero, List.set_cons_succ]))
      refine anyH_sole (i := 3) rfl (by kernel_rfl) rfl (fun K hK => ?_)
      go_simp
      have hb1 := hb0.alloc hXs (.cells (mc ⟨.slice q1 m.ks.length d1, .slice q2 m.ss.length d2, m⟩) 33)
      refine hK _ _ hb1 ?_
      clear hK K
      refine anyH_sole (i := 9) rfl (by kernel_rfl) rfl (fun K hK => ?_)
      go_simp
      refine (sames_any (xs := [m]) (msl_one (r := ⟨.slice q1 m.ks.length d1, .slice q2 m.ss.length d2, m⟩) (Box.new X _ _) (HM6.out.below hb1)) (HMI.out.below hb1) (fun x hx => by simp at hx; subst hx; exact HFM.out) (by simp)).mono ?_
      rintro e w7 ⟨rfl, hb⟩
      have hb7 := hb1.trans (hb.mono (by simp; omega))
      refine hK _ _ hb7 ?_
      clear hK K hb
      ((first | (refine anyH_free (i := 10) (v := ?_) rfl (by kernel_rfl) (fun _ _ _ h => h) (Or.inl ⟨rfl, fun w' hS => ?_⟩) hb7 ?_; rotate_left; (skip; go_simp <;> with_reducible rfl)) | (refine anyH_free (i := 10) (v := undef) rfl (by kernel_rfl) (fun _ _ _ h => h) (Or.inr ⟨rfl, rfl⟩) hb7 ?_)); (simp only [Act.put, List.setIfInBounds_toArray, List.set_cons_zero, List.set_cons_succ])); ((first | (refine anyH_free (i := 11) (v := ?_) rfl (by kernel_rfl) (fun _ _ _ h => h) (Or.inl ⟨rfl, fun w' hS => ?_⟩) hb7 ?_; rotate_left; (skip; go_simp <;> with_reducible rfl)) | (refine anyH_free (i := 11) (v := undef) rfl (by kernel_rfl) (fun _ _ _ h => h) (Or.inr ⟨rfl, rfl⟩) hb7 ?_)); (simp only [Act.put, List.setIfInBounds_toArray, List.set_cons_zero, List.set_cons_succ])); ((first | (refine anyH_free (i := 12) (v := ?_) rfl (by kernel_rfl) (fun _ _ _ h => h) (Or.inl ⟨rfl, fun w' hS => ?_⟩) hb7 ?_; rotate_left; (skip; go_simp <;> with_reducible rfl)) | (refine anyH_free (i := 12) (v := undef) rfl (by kernel_rfl) (fun _ _ _ h => h) (Or.inr ⟨rfl, rfl⟩) hb7 ?_)); (simp only [Act.put, List.setIfInBounds_toArray, List.set_cons_zero, List.set_cons_succ])); ((first | (refine anyH_free (i := 14) (v := ?_) rfl (by kernel_rfl) (fun _ _ _ h => h) (Or.inl ⟨rfl, fun w' hS => ?_⟩) hb7 ?_; rotate_left; (skip; go_simp <;> with_reducible rfl)) | (refine anyH_free (i := 14) (v := undef) rfl (by kernel_rfl) (fun _ _ _ h => h) (Or.inr ⟨rfl, rfl⟩) hb7 ?_)); (simp only [Act.put, List.setIfInBounds_toArray, List.set_cons_zero, List.set_cons_succ]))
      refine anyH_sole (i := 13) rfl (by kernel_rfl) rfl (fun K hK => ?_)
      go_simp
      refine (all_m (HA6.out.below hb7) hle).mono ?_
      rintro e w8 ⟨v3, rs3, rfl, hr3, hw3, hb⟩
      obtain ⟨y1, z1, rfl⟩ := owns_slice hw3.own
      have hmsl := hw3.msl
      rw [hr3] at hmsl
      have hb8 := hb7.trans (hb.mono hb7.size)
      refine hK _ _ hb8 ?_
      clear hK K hb hw3 hr3
      refine anyH_sole (i := 15) rfl (by kernel_rfl) rfl (fun K hK => ?_)
      go_simp
      refine (sames_any hmsl (HRE.out.below hb8) HA6.out.few hle).mono ?_
      rintro e w9 ⟨rfl, hb⟩
      have hb9 := hb8.trans (hb.mono hb8.size)
      refine hK _ _ hb9 ?_
      clear hK K hb
      ((first | (refine anyH_free (i := 16) (v := ?_) rfl (by kernel_rfl) (fun _ _ _ h => h) (Or.inl ⟨rfl, fun w' hS => ?_⟩) hb9 ?_; rotate_left; (skip; go_simp <;> with_reducible rfl)) | (refine anyH_free (i := 16) (v := undef) rfl (by kernel_rfl) (fun _ _ _ h => h) (Or.inr ⟨rfl, rfl⟩) hb9 ?_)); (simp only [Act.put, List.setIfInBounds_toArray, List.set_cons_zero, List.set_cons_succ])); ((first | (refine anyH_free (i := 17) (v := ?_) rfl (by kernel_rfl) (fun _ _ _ h => h) (Or.inl ⟨rfl, fun w' hS => ?_⟩) hb9 ?_; rotate_left; (skip; go_simp <;> with_reducible rfl)) | (refine anyH_free (i := 17) (v := undef) rfl (by kernel_rfl) (fun _ _ _ h => h) (Or.inr ⟨rfl, rfl⟩) hb9 ?_)); (simp only [Act.put, List.setIfInBounds_toArray, List.set_cons_zero, List.set_cons_succ]))
      refine anyH_done (by kernel_rfl) ?_
      have HB9 := Lib.hid (HB6.out.trans (hb9.mono HB6.out.size))
      clear hb0 hb1 hb7 hb8 hb9 hmsl
      go_wp2_with fail
      go_ret
      exact ⟨rfl, HB9.out⟩
  · have hbad : (16 : Int) < (l.length : Int) ∨ (¬ (16 : Int) < (l.length : Int) ∧ ((l.length : Int) == 0) = true) := by
      rw [beq_iff_eq]
      omega
    clear hok HL
    rcases hbad with h1 | ⟨h1, h2⟩
    all_goals
      go_enter Try.func7, Try.ntmps7
      go_wp2_with fail
      refine (awake_any _).mono ?_
      rintro e w1 ⟨rfl, hb⟩
      have HB := Lib.hid hb
      clear hb
      go_wp2_with fail
      go_ret
      exact ⟨rfl, HB.out⟩
end Go.Proofs.Ytmmneeikcnapmaa
