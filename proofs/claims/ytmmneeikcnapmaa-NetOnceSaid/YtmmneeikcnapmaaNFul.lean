/- NetFull's walk -/
import Derived.Test.YtmmneeikcnapmaaNOrd
namespace Go.Proofs.Ytmmneeikcnapmaa
open Go.RowKit
attribute [local go_sem] Oper.semAt_some

theorem Sl.head' {α : Type} {S : Nat → Prop} {W : World} {size : Nat} {enc : α → List Value} {xs : List α} {p : Option Addr} {n c k : Nat} (h : Sl S W (.slice p n c) size enc xs) (hk : k ≤ n) : Sl S W (.slice p k c) size enc (xs.take k) := by
  cases p with
  | some a => exact h.head hk
  | none =>
    rcases h with ⟨h, rfl⟩ | ⟨a', cap, h, _⟩
    · simp only [Value.slice.injEq, true_and] at h
      obtain ⟨rfl, rfl⟩ := h
      obtain rfl : k = 0 := by omega
      exact .inl ⟨rfl, by simp⟩
    · cases h
theorem full_lt {l : List Ms} {k : Nat} {x : Ms} (hk : k < 16) (hx : l[k]? = some x) : sendE (l.take (min k 16)) = 0 ∧ sendL (l.take (min k 16)) x = l.take (min (k + 1) 16) := by
  rw [Nat.min_eq_left (by omega), Nat.min_eq_left (by omega)]
  have : (l.take k).length < 16 := by rw [List.length_take]; omega
  unfold sendE sendL
  rw [if_pos this, if_pos this, take_snoc' hx]
  exact ⟨rfl, rfl⟩
theorem full_ge {l : List Ms} {k : Nat} {x : Ms} (hk : ¬ k < 16) (hx : l[k]? = some x) : sendE (l.take (min k 16)) = 312 ∧ sendL (l.take (min k 16)) x = l.take (min (k + 1) 16) := by
  rw [Nat.min_eq_right (by omega), Nat.min_eq_right (by omega)]
  have h1 := (List.getElem?_eq_some_iff.1 hx).1
  have : ¬ (l.take 16).length < 16 := by rw [List.length_take]; omega
  unfold sendE sendL
  rw [if_neg this, if_neg this]
  exact ⟨rfl, rfl⟩
set_option maxRecDepth 100000 in
set_option maxHeartbeats 1000000 in
theorem netFull_any {v : Value} {l : List Ms} {w : World} (h : Msl (fun _ => True) w v l) : Calls Try.prog 8 #[v] w (Tells (.bool true) w) := by
  obtain ⟨p1, c1, rfl⟩ := h.slice
  have HL := Lib.hid (h.mono (T := fun b => b < w.heap.size) (fun b hb _ => hb))
  clear h
  by_cases h1 : l.length ≤ 40
  · have h1' : ¬ (40 : Int) < (l.length : Int) := by omega
    go_enter Try.func8, Try.ntmps8
    go_wp2_with fail
    refine (awake_any _).mono ?_
    rintro e w1 ⟨rfl, hb⟩
    have HB := Lib.hid hb
    clear hb
    go_wp2_with fail
    refine (new_m (Msl.nil (fun _ => True) _) (fun x hx => by cases hx) (by simp)).mono ?_
    rintro e w2 ⟨rfl, hN, hb⟩
    obtain ⟨p, hp⟩ : ∃ p, p = w1.heap.size := ⟨_, rfl⟩
    have hs1 := HB.out.size
    have hN0 : NetM (fun b => b < w.heap.size) w1.heap.size w2 (l.take (min 0 16)) := by
      have e : l.take (min 0 16) = [] := by simp
      rw [e]
      exact hN.turn (fun b _ m => by omega)
    rw [← hp] at hN0 ⊢
    have HB2 := Lib.hid (below_then HB.out hb)
    clear hp hb hN HB
    go_wp2_with fail
    go_loopw [4, 5, 6] (fun iv_ _ _ wr => ∃ k : Nat, iv_ = .int .i64 k ∧ k ≤ l.length ∧ (∀ x ∈ l.take k, Few x) ∧ NetM (fun b => b < w.heap.size) p wr (l.take (min k 16)) ∧ Below w.heap.size w wr) (fun iv_ _ _ _ => l.length - (intOf iv_).toNat)
    · exact ⟨0, rfl, by omega, (fun x hx => by simp at hx), hN0, HB2.out⟩
    clear hN0
    obtain ⟨k, rfl, hk, hF, hN, hB⟩ := hrel
    by_cases hlt : k < l.length
    · obtain ⟨x, hx⟩ : ∃ x, l[k]? = some x := ⟨_, List.getElem?_eq_getElem hlt⟩
      obtain ⟨a1, ⟨kv, sv, m⟩, rfl, e1, g1, x0, x1, x2, x3, x4⟩ := (HL.out.below hB).at hx
      obtain ⟨q1, d1, e3, -, -⟩ := g1.k.len
      obtain ⟨q2, d2, e4, -, -⟩ := g1.s.len
      simp only at e3 e4 x0 x1 x2 x3 x4 e1
      subst e3 e4
      subst e1
      have hkk : (k : Int) < (l.length : Int) := by omega
      have HG := Lib.hid (big_any g1)
      have HS := Lib.hid (fun hf : Few m => few_snoc hF hx hf)
      have HBr := Lib.hid hB
      have HN := Lib.hid hN
      have HM := Lib.hid g1
      have HX := Lib.hid hx
      have hlen : (l.take (min k 16)).length ≤ 100000 := by rw [List.length_take]; omega
      have H0 := Lib.hid x0
      have H1 := Lib.hid x1
      have H2 := Lib.hid x2
      have H3 := Lib.hid x3
      have H4 := Lib.hid x4
      clear hx g1 hF hB hN
      go_wp2_with fail
      refine HG.out.mono ?_
      rintro e w3 ⟨bg, rfl, hf, hb⟩
      clear HG x0 x1 x2 x3 x4
      cases bg with
      | true =>
        have HB3 := Lib.hid (HBr.out.trans (hb.mono HBr.out.size))
        clear hf hb
        go_wp2_with fail
        go_ret
        exact ⟨rfl, HB3.out⟩
      | false =>
        have HF3 := Lib.hid (hf rfl)
        have HFS := Lib.hid (HS.out (hf rfl))
        have hs3 := hb.size
        have HN3 := Lib.hid (HN.out.below hb)
        have HBL3 := Lib.hid hb
        clear hf HS hb HN
        go_wp2_with fail
        refine (all_m HN3.out hlen).mono ?_
        rintro e w4 ⟨vb, rb, rfl, hrb, hwb, hb⟩
        obtain ⟨pb, cb, rfl⟩ := owns_slice hwb.own
        have hmsl := hwb.msl
        rw [hrb] at hmsl
        have hs4 := hb.size
        have hN4 := (HN3.out.turn (L := fun b => b < w.heap.size ∨ (w3.heap.size ≤ b ∧ b < w4.heap.size)) (fun b hb m => by omega)).below hb
        have hb34 := below_then HBL3.out hb
        have HB4 := Lib.hid (HBr.out.trans (hb34.mono HBr.out.size))
        have hM4 := HM.out.below hb34
        have y0 := cell_below H0.out hb34
        have y1 := cell_below H1.out hb34
        have y2 := cell_below H2.out hb34
        have y3 := cell_below H3.out hb34
        have y4 := cell_below H4.out hb34
        have hwr := HBr.out.size
        have HSD := Lib.hid (send_m hN4 (fun b m => by omega) hM4 HF3.out)
        have HMS := Lib.hid (hmsl.mono (T := fun b => w3.heap.size ≤ b ∧ b < w4.heap.size) (fun b hb s => ⟨s, hb⟩))
        have HFEW := Lib.hid HN3.out.few
        clear hb hb34 hN4 hM4 hmsl hwb hrb HN3 HBL3 H0 H1 H2 H3 H4 HM
        go_wp2_with fail
        refine HSD.out.mono ?_
        rintro e w5 ⟨rfl, hN5, hk5⟩
        clear HSD y0 y1 y2 y3 y4
        have HB5 := Lib.hid (HB4.out.trans (hk5.below (fun b s => by omega) HB4.out.size))
        have HMS5 := Lib.hid (HMS.out.kept hk5 (fun b _ s => by omega))
        clear hk5 HMS HB4
        by_cases h16 : k < 16
        · obtain ⟨e1, e2⟩ := full_lt h16 HX.out
          rw [e2] at hN5
          rw [e1]
          have HN5 := Lib.hid (hN5.turn (L := fun b => b < w.heap.size) (fun b _ m => .inl m))
          have hk16 : (k : Int) < 16 := by omega
          clear hN5 e1 e2
          go_wp2_with fail
          exact ⟨⟨k + 1, by simp, by omega, HFS.out, HN5.out, HB5.out⟩, by simp [intOf]; omega⟩
        · obtain ⟨e1, e2⟩ := full_ge h16 HX.out
          rw [e2] at hN5
          rw [e1]
          have e3 : l.take (min (k + 1) 16) = l.take (min k 16) := by rw [Nat.min_eq_right (by omega), Nat.min_eq_right (by omega)]
          have HN5 := Lib.hid (hN5.turn (L := fun b => b < w.heap.size) (fun b _ m => .inl m))
          have HE3 := Lib.hid e3
          have hk16 : ¬ (k : Int) < 16 := by omega
          clear hN5 e1 e2 e3
          go_wp2_with fail
          refine (all_m HN5.out (by rw [HE3.out]; exact hlen)).mono ?_
          rintro e w6 ⟨va, ra_, rfl, hra, hwa, hb⟩
          obtain ⟨pa, ca, rfl⟩ := owns_slice hwa.own
          have hmsl := hwa.msl
          rw [hra, HE3.out] at hmsl
          have HMA := Lib.hid hmsl
          have HN6 := Lib.hid (HN5.out.below hb)
          have HB6 := Lib.hid (HB5.out.trans (hb.mono HB5.out.size))
          have HMS6 := Lib.hid (HMS5.out.below hb)
          clear hb hwa hra hmsl HN5 HB5 HMS5
          go_wp2_with fail
          refine (sames_any HMA.out HMS6.out HFEW.out hlen).mono ?_
          rintro e w7 ⟨rfl, hb⟩
          have HN7 := Lib.hid (HN6.out.below hb)
          have HB7 := Lib.hid (HB6.out.trans (hb.mono HB6.out.size))
          clear hb HN6 HB6
          go_wp2_with fail
          exact ⟨⟨k + 1, by simp, by omega, HFS.out, HN7.out, HB7.out⟩, by simp [intOf]; omega⟩
    · obtain rfl : k = l.length := by omega
      go_wp2_with fail
      rw [List.take_length] at hF
      obtain ⟨q, hq⟩ : ∃ q, min l.length 16 = q := ⟨_, rfl⟩
      have hql : (l.take (min l.length 16)).length = q := by rw [List.length_take]; omega
      have hq1 : q ≤ l.length := by omega
      have hL := (HL.out.below hB)
      obtain ⟨rs, hrs, hsl, hmo⟩ := hL
      have hrl : rs.length = l.length := by rw [← hrs, List.length_map]
      have hcap : l.length ≤ c1 := by
        rcases hsl with ⟨h, h'⟩ | ⟨a', cap, h, _, h2, _, _⟩
        · simp only [Value.slice.injEq] at h
          omega
        · simp only [Value.slice.injEq] at h
          omega
      have hms : Msl (fun _ => True) wr (.slice p1 q c1) (l.take (min l.length 16)) := ⟨rs.take q, by rw [hq, ← hrs, List.map_take], (hsl.head' hq1).mono (fun _ _ _ => trivial), fun r hr => (hmo r (List.mem_of_mem_take hr)).mono (fun _ _ _ => trivial)⟩
      have HLN := Lib.hid (len_m hN)
      have HN := Lib.hid hN
      have HMS := Lib.hid hms
      have HQL := Lib.hid hql
      have HFW := Lib.hid hN.few
      have HBB := Lib.hid hB
      have hmn : (if (16 : Int) < (l.length : Int) then (16 : Int) else (l.length : Int)) = (q : Int) := by split <;> omega
      have k0 : (0 : Int) ≤ (q : Int) := by omega
      have k1 : (q : Int) ≤ (c1 : Int) := by omega
      clear hF hN hB hrs hsl hmo hrl hms hql hq
      refine anyH_start 17 (fun w' => Below wr.heap.size wr w') (by kernel_rfl) rfl ?_
      have hb0 : Below wr.heap.size wr wr.drew := (Below.refl _ wr).drew
      ((first | (refine anyH_free (i := 0) (v := ?_) rfl (by kernel_rfl) (fun _ _ _ h => h) (Or.inl ⟨rfl, fun w' hS => ?_⟩) hb0 ?_; rotate_left; (skip; go_simp <;> with_reducible rfl)) | (refine anyH_free (i := 0) (v := undef) rfl (by kernel_rfl) (fun _ _ _ h => h) (Or.inr ⟨rfl, rfl⟩) hb0 ?_)); (simp only [Act.put, List.setIfInBounds_toArray, List.set_cons_zero, List.set_cons_succ])); ((first | (refine anyH_free (i := 2) (v := ?_) rfl (by kernel_rfl) (fun _ _ _ h => h) (Or.inl ⟨rfl, fun w' hS => ?_⟩) hb0 ?_; rotate_left; (skip; go_simp <;> with_reducible rfl)) | (refine anyH_free (i := 2) (v := undef) rfl (by kernel_rfl) (fun _ _ _ h => h) (Or.inr ⟨rfl, rfl⟩) hb0 ?_)); (simp only [Act.put, List.setIfInBounds_toArray, List.set_cons_zero, List.set_cons_succ])); ((first | (refine anyH_free (i := 3) (v := ?_) rfl (by kernel_rfl) (fun _ _ _ h => h) (Or.inl ⟨rfl, fun w' hS => ?_⟩) hb0 ?_; rotate_left; (skip; go_simp <;> with_reducible rfl)) | (refine anyH_free (i := 3) (v := undef) rfl (by kernel_rfl) (fun _ _ _ h => h) (Or.inr ⟨rfl, rfl⟩) hb0 ?_)); (simp only [Act.put, List.setIfInBounds_toArray, List.set_cons_zero, List.set_cons_succ])); ((first | (refine anyH_free (i := 4) (v := ?_) rfl (by kernel_rfl) (fun _ _ _ h => h) (Or.inl ⟨rfl, fun w' hS => ?_⟩) hb0 ?_; rotate_left; (skip; go_simp <;> with_reducible rfl)) | (refine anyH_free (i := 4) (v := undef) rfl (by kernel_rfl) (fun _ _ _ h => h) (Or.inr ⟨rfl, rfl⟩) hb0 ?_)); (simp only [Act.put, List.setIfInBounds_toArray, List.set_cons_zero, List.set_cons_succ]))
      refine anyH_sole (i := 1) rfl (by kernel_rfl) rfl (fun K hK => ?_)
      go_simp
      refine (len_m (HN.out.below hb0)).mono ?_
      rw [HQL.out]
      rintro e w3 ⟨rfl, rfl⟩
      refine hK _ _ hb0 ?_
      clear hK K
      ((first | (refine anyH_free (i := 5) (v := ?_) rfl (by kernel_rfl) (fun _ _ _ h => h) (Or.inl ⟨rfl, fun w' hS => ?_⟩) hb0 ?_; rotate_left; (skip; go_simp <;> with_reducible rfl)) | (refine anyH_free (i := 5) (v := undef) rfl (by kernel_rfl) (fun _ _ _ h => h) (Or.inr ⟨rfl, rfl⟩) hb0 ?_)); (simp only [Act.put, List.setIfInBounds_toArray, List.set_cons_zero, List.set_cons_succ])); ((first | (refine anyH_free (i := 6) (v := ?_) rfl (by kernel_rfl) (fun _ _ _ h => h) (Or.inl ⟨rfl, fun w' hS => ?_⟩) hb0 ?_; rotate_left; (skip; go_simp <;> with_reducible rfl)) | (refine anyH_free (i := 6) (v := undef) rfl (by kernel_rfl) (fun _ _ _ h => h) (Or.inr ⟨rfl, rfl⟩) hb0 ?_)); (simp only [Act.put, List.setIfInBounds_toArray, List.set_cons_zero, List.set_cons_succ])); ((first | (refine anyH_free (i := 7) (v := ?_) rfl (by kernel_rfl) (fun _ _ _ h => h) (Or.inl ⟨rfl, fun w' hS => ?_⟩) hb0 ?_; rotate_left; (skip; go_simp <;> with_reducible rfl)) | (refine anyH_free (i := 7) (v := undef) rfl (by kernel_rfl) (fun _ _ _ h => h) (Or.inr ⟨rfl, rfl⟩) hb0 ?_)); (simp only [Act.put, List.setIfInBounds_toArray, List.set_cons_zero, List.set_cons_succ])); ((first | (refine anyH_free (i := 9) (v := ?_) rfl (by kernel_rfl) (fun _ _ _ h => h) (Or.inl ⟨rfl, fun w' hS => ?_⟩) hb0 ?_; rotate_left; (skip; go_simp <;> with_reducible rfl)) | (refine anyH_free (i := 9) (v := undef) rfl (by kernel_rfl) (fun _ _ _ h => h) (Or.inr ⟨rfl, rfl⟩) hb0 ?_)); (simp only [Act.put, List.setIfInBounds_toArray, List.set_cons_zero, List.set_cons_succ])); ((first | (refine anyH_free (i := 10) (v := ?_) rfl (by kernel_rfl) (fun _ _ _ h => h) (Or.inl ⟨rfl, fun w' hS => ?_⟩) hb0 ?_; rotate_left; (skip; go_simp <;> with_reducible rfl)) | (refine anyH_free (i := 10) (v := undef) rfl (by kernel_rfl) (fun _ _ _ h => h) (Or.inr ⟨rfl, rfl⟩) hb0 ?_)); (simp only [Act.put, List.setIfInBounds_toArray, List.set_cons_zero, List.set_cons_succ])); ((first | (refine anyH_free (i := 11) (v := ?_) rfl (by kernel_rfl) (fun _ _ _ h => h) (Or.inl ⟨rfl, fun w' hS => ?_⟩) hb0 ?_; rotate_left; (skip; go_simp <;> with_reducible rfl)) | (refine anyH_free (i := 11) (v := undef) rfl (by kernel_rfl) (fun _ _ _ h => h) (Or.inr ⟨rfl, rfl⟩) hb0 ?_)); (simp only [Act.put, List.setIfInBounds_toArray, List.set_cons_zero, List.set_cons_succ])); ((first | (refine anyH_free (i := 12) (v := ?_) rfl (by kernel_rfl) (fun _ _ _ h => h) (Or.inl ⟨rfl, fun w' hS => ?_⟩) hb0 ?_; rotate_left; (skip; go_simp <;> with_reducible rfl)) | (refine anyH_free (i := 12) (v := undef) rfl (by kernel_rfl) (fun _ _ _ h => h) (Or.inr ⟨rfl, rfl⟩) hb0 ?_)); (simp only [Act.put, List.setIfInBounds_toArray, List.set_cons_zero, List.set_cons_succ])); ((first | (refine anyH_free (i := 13) (v := ?_) rfl (by kernel_rfl) (fun _ _ _ h => h) (Or.inl ⟨rfl, fun w' hS => ?_⟩) hb0 ?_; rotate_left; (skip; go_simp <;> with_reducible rfl)) | (refine anyH_free (i := 13) (v := undef) rfl (by kernel_rfl) (fun _ _ _ h => h) (Or.inr ⟨rfl, rfl⟩) hb0 ?_)); (simp only [Act.put, List.setIfInBounds_toArray, List.set_cons_zero, List.set_cons_succ]))
      refine anyH_sole (i := 8) rfl (by kernel_rfl) rfl (fun K hK => ?_)
      go_simp
      refine (all_m (HN.out.below hb0) (by rw [HQL.out]; omega)).mono ?_
      rintro e w8 ⟨v3, rs3, rfl, hr3, hw3, hb⟩
      obtain ⟨y1, z1, rfl⟩ := owns_slice hw3.own
      have hmsl := hw3.msl
      rw [hr3] at hmsl
      have hb8 := hb0.trans (hb.mono hb0.size)
      refine hK _ _ hb8 ?_
      clear hK K hb hw3 hr3
      refine anyH_sole (i := 14) rfl (by kernel_rfl) rfl (fun K hK => ?_)
      go_simp
      refine (sames_any hmsl (HMS.out.below hb8) HFW.out (by rw [HQL.out]; omega)).mono ?_
      rintro e w9 ⟨rfl, hb⟩
      have hb9 := hb8.trans (hb.mono hb8.size)
      refine hK _ _ hb9 ?_
      clear hK K hb
      ((first | (refine anyH_free (i := 15) (v := ?_) rfl (by kernel_rfl) (fun _ _ _ h => h) (Or.inl ⟨rfl, fun w' hS => ?_⟩) hb9 ?_; rotate_left; (skip; go_simp <;> with_reducible rfl)) | (refine anyH_free (i := 15) (v := undef) rfl (by kernel_rfl) (fun _ _ _ h => h) (Or.inr ⟨rfl, rfl⟩) hb9 ?_)); (simp only [Act.put, List.setIfInBounds_toArray, List.set_cons_zero, List.set_cons_succ])); ((first | (refine anyH_free (i := 16) (v := ?_) rfl (by kernel_rfl) (fun _ _ _ h => h) (Or.inl ⟨rfl, fun w' hS => ?_⟩) hb9 ?_; rotate_left; (skip; go_simp <;> with_reducible rfl)) | (refine anyH_free (i := 16) (v := undef) rfl (by kernel_rfl) (fun _ _ _ h => h) (Or.inr ⟨rfl, rfl⟩) hb9 ?_)); (simp only [Act.put, List.setIfInBounds_toArray, List.set_cons_zero, List.set_cons_succ]))
      refine anyH_done (by kernel_rfl) ?_
      have HB9 := Lib.hid (HBB.out.trans (hb9.mono HBB.out.size))
      clear hb0 hb8 hb9 hmsl
      go_wp2_with fail
      go_ret
      exact ⟨rfl, HB9.out⟩
  · have h1' : (40 : Int) < (l.length : Int) := by omega
    clear h1 HL
    go_enter Try.func8, Try.ntmps8
    go_wp2_with fail
    refine (awake_any _).mono ?_
    rintro e w1 ⟨rfl, hb⟩
    have HB := Lib.hid hb
    clear hb
    go_wp2_with fail
    go_ret
    exact ⟨rfl, HB.out⟩
end Go.Proofs.Ytmmneeikcnapmaa
