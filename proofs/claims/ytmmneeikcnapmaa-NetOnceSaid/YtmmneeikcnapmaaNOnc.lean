/- NetOnce's walk -/
import Derived.Test.YtmmneeikcnapmaaNOnP
import Derived.Deep.DeepCutAuto
namespace Go.Proofs.Ytmmneeikcnapmaa
open Go.RowKit
attribute [local go_sem] Oper.semAt_some

set_option maxRecDepth 100000 in
set_option maxHeartbeats 4000000 in
theorem netOnce_any {v dv : Value} {l : List Ms} {ds : List Int} {w : World} (h : Msl (fun _ => True) w v l) (hd : Sl (fun _ => True) w dv 1 encJ ds) : Calls Try.prog 3 #[v, dv] w (Tells (.bool true) w) := by
  obtain ⟨p1, c1, rfl⟩ := h.slice
  obtain ⟨p2, c2, rfl, -, -⟩ := hd.len
  have HL := Lib.hid (h.mono (T := fun b => b < w.heap.size) (fun b hb _ => hb))
  have HD := Lib.hid (hd.mono (T := fun b => b < w.heap.size) (fun b hb _ => hb))
  clear h hd
  by_cases hok : l.length ≤ 100 ∧ ds.length ≤ 300
  · obtain ⟨h1, h2⟩ := hok
    have h1' : ¬ (100 : Int) < (l.length : Int) := by omega
    have h2' : ¬ (300 : Int) < (ds.length : Int) := by omega
    go_enter Try.func3, Try.ntmps3
    go_wp2_with fail
    refine (awake_any _).mono ?_
    rintro e w1 ⟨rfl, hb⟩
    have HB := Lib.hid hb
    clear hb
    go_wp2_with fail
    refine (new_m (Msl.nil (fun _ => True) _) (fun x hx => by cases hx) (by simp)).mono ?_
    rintro e w2 ⟨rfl, hN, hb⟩
    obtain ⟨p, hp⟩ : ∃ p, p = w1.heap.size := ⟨_, rfl⟩
    have hs1 := HB.out.size
    have hN0 : NetM (fun b => b < w.heap.size ∨ w2.heap.size ≤ b) w1.heap.size w2 (qs l []) := hN.turn (fun b _ m => by omega)
    rw [← hp] at hN0 ⊢
    have HB2 := Lib.hid (below_then HB.out hb)
    have HN0 := Lib.hid hN0
    obtain ⟨i0, hi, hi0, hi1, hi2⟩ := info_parts info_bool
    have HI := Lib.hid hi
    have HI0 := Lib.hid hi0
    have HI1 := Lib.hid hi1
    have HI2 := Lib.hid hi2
    clear hp hb hN HB hN0 hi hi0 hi1 hi2
    go_wp2_with fail
    go_cut [6, 7] (fun uv tv wc => ∃ bu bt : Nat, uv = .slice (some ⟨bu, 0, none⟩) l.length l.length ∧ tv = .slice (some ⟨bt, 0, none⟩) l.length l.length ∧ Bx wc bu (List.replicate l.length false) ∧ Bx wc bt (List.replicate l.length false) ∧ bu ≠ bt ∧ w2.heap.size ≤ bu ∧ w2.heap.size ≤ bt ∧ Below w2.heap.size w2 wc)
    case first =>
      refine anyH_start 8 (fun w' => Below w2.heap.size w2 w') (by kernel_rfl) rfl ?_
      have hb0 : Below w2.heap.size w2 w2.drew := (Below.refl _ w2).drew
      obtain ⟨X, hX⟩ : ∃ X, w2.drew = X := ⟨_, rfl⟩
      rw [hX] at hb0 ⊢
      have hXs : w2.heap.size ≤ X.heap.size := hb0.size
      clear hX
      ((first | (refine anyH_free (i := 0) (v := ?_) rfl (by kernel_rfl) (fun _ _ _ h => h) (Or.inl ⟨rfl, fun w' hS => ?_⟩) hb0 ?_; rotate_left; (skip; go_simp <;> with_reducible rfl)) | (refine anyH_free (i := 0) (v := undef) rfl (by kernel_rfl) (fun _ _ _ h => h) (Or.inr ⟨rfl, rfl⟩) hb0 ?_)); (simp only [Act.put, List.setIfInBounds_toArray, List.set_cons_zero, List.set_cons_succ])); ((first | (refine anyH_free (i := 1) (v := ?_) rfl (by kernel_rfl) (fun _ _ _ h => h) (Or.inl ⟨rfl, fun w' hS => ?_⟩) hb0 ?_; rotate_left; (skip; go_simp <;> with_reducible rfl)) | (refine anyH_free (i := 1) (v := undef) rfl (by kernel_rfl) (fun _ _ _ h => h) (Or.inr ⟨rfl, rfl⟩) hb0 ?_)); (simp only [Act.put, List.setIfInBounds_toArray, List.set_cons_zero, List.set_cons_succ])); ((first | (refine anyH_free (i := 3) (v := ?_) rfl (by kernel_rfl) (fun _ _ _ h => h) (Or.inl ⟨rfl, fun w' hS => ?_⟩) hb0 ?_; rotate_left; (skip; go_simp <;> with_reducible rfl)) | (refine anyH_free (i := 3) (v := undef) rfl (by kernel_rfl) (fun _ _ _ h => h) (Or.inr ⟨rfl, rfl⟩) hb0 ?_)); (simp only [Act.put, List.setIfInBounds_toArray, List.set_cons_zero, List.set_cons_succ])); ((first | (refine anyH_free (i := 4) (v := ?_) rfl (by kernel_rfl) (fun _ _ _ h => h) (Or.inl ⟨rfl, fun w' hS => ?_⟩) hb0 ?_; rotate_left; (skip; go_simp <;> with_reducible rfl)) | (refine anyH_free (i := 4) (v := undef) rfl (by kernel_rfl) (fun _ _ _ h => h) (Or.inr ⟨rfl, rfl⟩) hb0 ?_)); (simp only [Act.put, List.setIfInBounds_toArray, List.set_cons_zero, List.set_cons_succ]))
      refine anyH_two (i := 2) (j := 5) rfl rfl (by kernel_rfl) rfl rfl (fun K hK => ?_) (fun K hK => ?_)
      · refine wp_make_bools (.tmp 29) (.tmp 29) 27 rfl 4 i0 Try.underlying27 HI.out HI0.out HI1.out HI2.out .i64 .i64 l.length (by rfl) (by rfl) (by omega) ?_
        intro w3 hx3 hb3
        have hb4 := hb0.trans (hb3.mono hXs)
        refine hK _ _ hb4 ?_
        clear hK K
        simp only [Act.put, List.setIfInBounds_toArray, List.set_cons_zero, List.set_cons_succ]
        ((first | (refine anyH_free (i := 6) (v := ?_) rfl (by kernel_rfl) (fun _ _ _ h => h) (Or.inl ⟨rfl, fun w' hS => ?_⟩) hb4 ?_; rotate_left; (skip; go_simp <;> with_reducible rfl)) | (refine anyH_free (i := 6) (v := undef) rfl (by kernel_rfl) (fun _ _ _ h => h) (Or.inr ⟨rfl, rfl⟩) hb4 ?_)); (simp only [Act.put, List.setIfInBounds_toArray, List.set_cons_zero, List.set_cons_succ]))
        refine anyH_sole (i := 5) rfl (by kernel_rfl) rfl (fun K hK => ?_)
        refine wp_make_bools (.tmp 32) (.tmp 32) 27 rfl 4 i0 Try.underlying27 HI.out HI0.out HI1.out HI2.out .i64 .i64 l.length (by rfl) (by rfl) (by omega) ?_
        intro w4 hx4 hb5
        have hb6 := hb4.trans (hb5.mono (by have := hb3.size; omega))
        refine hK _ _ hb6 ?_
        clear hK K
        simp only [Act.put, List.setIfInBounds_toArray, List.set_cons_zero, List.set_cons_succ]
        ((first | (refine anyH_free (i := 7) (v := ?_) rfl (by kernel_rfl) (fun _ _ _ h => h) (Or.inl ⟨rfl, fun w' hS => ?_⟩) hb6 ?_; rotate_left; (skip; go_simp <;> with_reducible rfl)) | (refine anyH_free (i := 7) (v := undef) rfl (by kernel_rfl) (fun _ _ _ h => h) (Or.inr ⟨rfl, rfl⟩) hb6 ?_)); (simp only [Act.put, List.setIfInBounds_toArray, List.set_cons_zero, List.set_cons_succ]))
        refine anyH_done (by kernel_rfl) ?_
        have hu : Bx w4 X.heap.size (List.replicate l.length false) := Box.below hx3 hb5
        have ht : Bx w4 w3.heap.size (List.replicate l.length false) := hx4
        have hnx : X.heap.size ≠ w3.heap.size := by have := hx3.lt; omega
        have hxs : w2.heap.size ≤ X.heap.size ∧ w2.heap.size ≤ w3.heap.size := ⟨hXs, by have := hb3.size; omega⟩
        go_wp2_with fail
        go_meet
        case rel => exact ⟨_, _, rfl, rfl, hu, ht, hnx, hxs.1, hxs.2, hb6⟩
      · refine wp_make_bools (.tmp 32) (.tmp 32) 27 rfl 4 i0 Try.underlying27 HI.out HI0.out HI1.out HI2.out .i64 .i64 l.length (by rfl) (by rfl) (by omega) ?_
        intro w3 hx3 hb3
        have hb4 := hb0.trans (hb3.mono hXs)
        refine hK _ _ hb4 ?_
        clear hK K
        simp only [Act.put, List.setIfInBounds_toArray, List.set_cons_zero, List.set_cons_succ]
        refine anyH_sole (i := 2) rfl (by kernel_rfl) rfl (fun K hK => ?_)
        refine wp_make_bools (.tmp 29) (.tmp 29) 27 rfl 4 i0 Try.underlying27 HI.out HI0.out HI1.out HI2.out .i64 .i64 l.length (by rfl) (by rfl) (by omega) ?_
        intro w4 hx4 hb5
        have hb6 := hb4.trans (hb5.mono (by have := hb3.size; omega))
        refine hK _ _ hb6 ?_
        clear hK K
        simp only [Act.put, List.setIfInBounds_toArray, List.set_cons_zero, List.set_cons_succ]
        ((first | (refine anyH_free (i := 6) (v := ?_) rfl (by kernel_rfl) (fun _ _ _ h => h) (Or.inl ⟨rfl, fun w' hS => ?_⟩) hb6 ?_; rotate_left; (skip; go_simp <;> with_reducible rfl)) | (refine anyH_free (i := 6) (v := undef) rfl (by kernel_rfl) (fun _ _ _ h => h) (Or.inr ⟨rfl, rfl⟩) hb6 ?_)); (simp only [Act.put, List.setIfInBounds_toArray, List.set_cons_zero, List.set_cons_succ])); ((first | (refine anyH_free (i := 7) (v := ?_) rfl (by kernel_rfl) (fun _ _ _ h => h) (Or.inl ⟨rfl, fun w' hS => ?_⟩) hb6 ?_; rotate_left; (skip; go_simp <;> with_reducible rfl)) | (refine anyH_free (i := 7) (v := undef) rfl (by kernel_rfl) (fun _ _ _ h => h) (Or.inr ⟨rfl, rfl⟩) hb6 ?_)); (simp only [Act.put, List.setIfInBounds_toArray, List.set_cons_zero, List.set_cons_succ]))
        refine anyH_done (by kernel_rfl) ?_
        have ht : Bx w4 X.heap.size (List.replicate l.length false) := Box.below hx3 hb5
        have hu : Bx w4 w3.heap.size (List.replicate l.length false) := hx4
        have hnx : w3.heap.size ≠ X.heap.size := by have := hx3.lt; omega
        have hxs : w2.heap.size ≤ w3.heap.size ∧ w2.heap.size ≤ X.heap.size := ⟨by have := hb3.size; omega, hXs⟩
        go_wp2_with fail
        go_meet
        case rel => exact ⟨_, _, rfl, rfl, hu, ht, hnx, hxs.1, hxs.2, hb6⟩
    case rest =>
      obtain ⟨bu, bt, rfl, rfl, hu, ht, hnx, hxu, hxt, hb6⟩ := hcut
      have HU := Lib.hid hu
      have HT := Lib.hid ht
      have HN4 := Lib.hid ((HN0.out.below hb6).turn (L := fun b => b < w.heap.size ∨ b = bu ∨ b = bt) (fun b _ m => by omega))
      have HB4 := Lib.hid (HB2.out.trans (hb6.mono HB2.out.size))
      have hs4 := hb6.size
      have hbu := HU.out.lt
      have hbt := HT.out.lt
      have hws := HB2.out.size
      clear hb6 HN0 hu ht
      go_wp2_with fail
      go_loopw [8, 9, 10, 11, 12, 13, 14, 15] (fun kv_ iv_ _ _ _ _ _ _ wr => ∃ (i : Nat) (js : List Nat) (us ts : List Bool), kv_ = .int .i64 i ∧ iv_ = .int .i64 i ∧ Inv l i js us ts ∧ (l.length ≤ i → i - l.length + js.length ≤ 16) ∧ (∀ x ∈ l.take i, Few x) ∧ NetM (fun b => b < w.heap.size ∨ b = bu ∨ b = bt) p wr (qs l js) ∧ Bx wr bu us ∧ Bx wr bt ts ∧ Below w.heap.size w wr) (fun _ iv_ _ _ _ _ _ _ _ => l.length + 17 - (intOf iv_).toNat)
      · exact ⟨0, [], _, _, rfl, rfl, Inv.start l, fun _ => by simp, (fun x hx => by simp at hx), HN4.out, HU.out, HT.out, HB4.out⟩
      clear HN4 HU HT HB4 HB2
      obtain ⟨i, js, us, ts, rfl, rfl, hI, hend, hF, hN, hU, hT, hB⟩ := hrel
      by_cases hgo : i < l.length ∨ 0 < js.length
      · have HI := Lib.hid hI
        have HEND := Lib.hid hend
        have HF := Lib.hid hF
        have HN := Lib.hid hN
        have HU := Lib.hid hU
        have HT := Lib.hid hT
        have HB := Lib.hid hB
        clear hI hend hF hN hU hT hB
        have him : i < l.length + 17 := by
          by_cases hh : i < l.length
          · omega
          · have := HEND.out (by omega)
            omega
        have hib : (i : Int) ≤ 116 := by
          by_cases hh : i < l.length
          · omega
          · have := HEND.out (by omega)
            omega
        by_cases hi : i < l.length
        case' pos =>
          have hik : (i : Int) < (l.length : Int) := by omega
          go_upto_if 48 with fail
        case' neg =>
          have hik : ¬ (i : Int) < (l.length : Int) := by omega
          have hjl : (0 : Int) < (js.length : Int) := by omega
          go_wp2_with fail
          refine (len_m HN.out).mono ?_
          rw [qs_len]
          rintro e w5 ⟨rfl, rfl⟩
          go_upto_if 48 with fail
        case' pos =>
          go_cut [10] (fun _ wc => ∃ js' us', (l.length ≤ i → i - l.length + js'.length ≤ 16 ∧ 0 < js'.length) ∧ Inv l (i + 1) js' us' ts ∧ (∀ x ∈ l.take (i + 1), Few x) ∧ NetM (fun b => b < w.heap.size ∨ b = bu ∨ b = bt) p wc (qs l js') ∧ Bx wc bu us' ∧ Bx wc bt ts ∧ Below w.heap.size w wc)
          case first =>
            obtain ⟨x, hx⟩ : ∃ x, l[i]? = some x := ⟨_, List.getElem?_eq_getElem hi⟩
            obtain ⟨a1, ⟨kv, sv, m⟩, rfl, e1, g1, x0, x1, x2, x3, x4⟩ := (HL.out.below HB.out).at hx
            obtain ⟨q1, d1, e3, -, -⟩ := g1.k.len
            obtain ⟨q2, d2, e4, -, -⟩ := g1.s.len
            simp only at e3 e4 x0 x1 x2 x3 x4 e1
            subst e3 e4
            subst e1
            obtain ⟨b, js', hE, hS, hI', h16⟩ := HI.out.send hi
            rw [mk_at hx] at hS
            have HG := Lib.hid (big_any g1)
            have HFS := Lib.hid (fun hf : Few m => few_snoc HF.out hx hf)
            have HM := Lib.hid g1
            have HX := Lib.hid hx
            have HI' := Lib.hid hI'
            have H0 := Lib.hid x0
            have H1 := Lib.hid x1
            have H2 := Lib.hid x2
            have H3 := Lib.hid x3
            have H4 := Lib.hid x4
            have HE := Lib.hid hE
            have HS := Lib.hid hS
            have HH16 := Lib.hid h16
            have hul : i < us.length := by rw [HI.out.lu]; exact hi
            clear hx g1 hI' hE hS h16
            go_wp2_with fail
            refine HG.out.mono ?_
            rintro e w5 ⟨bg, rfl, hf, hb⟩
            clear HG x0 x1 x2 x3 x4
            cases bg with
            | true =>
              have HB3 := Lib.hid (HB.out.trans (hb.mono HB.out.size))
              clear hf hb
              go_wp2_with fail
              go_ret
              exact ⟨rfl, HB3.out⟩
            | false =>
              have HF3 := Lib.hid (hf rfl)
              have HFS2 := Lib.hid (HFS.out (hf rfl))
              have hs5 := hb.size
              have HN5 := Lib.hid (HN.out.below hb)
              have HBL := Lib.hid (HB.out.trans (hb.mono HB.out.size))
              have HU5 := Lib.hid (HU.out.below hb)
              have HT5 := Lib.hid (HT.out.below hb)
              have HM5 := Lib.hid (HM.out.below hb)
              have y0 := cell_below H0.out hb
              have y1 := cell_below H1.out hb
              have y2 := cell_below H2.out hb
              have y3 := cell_below H3.out hb
              have y4 := cell_below H4.out hb
              clear hf hb HFS HM H0 H1 H2 H3 H4
              have b10 := Box.new w5 (mc ⟨.slice q1 m.ks.length d1, .slice q2 m.ss.length d2, ⟨m.rule, m.route, (i : Int), m.ks, m.ss⟩⟩) 33
              have hb10 : Below w5.heap.size w5 (w5.alloc (.cells (mc ⟨.slice q1 m.ks.length d1, .slice q2 m.ss.length d2, ⟨m.rule, m.route, (i : Int), m.ks, m.ss⟩⟩) 33)) := (Below.refl _ w5).alloc (Nat.le_refl _) _
              have hmm : Mo (fun b => b < w.heap.size) (w5.alloc (.cells (mc ⟨.slice q1 m.ks.length d1, .slice q2 m.ss.length d2, ⟨m.rule, m.route, (i : Int), m.ks, m.ss⟩⟩) 33)) ⟨.slice q1 m.ks.length d1, .slice q2 m.ss.length d2, ⟨m.rule, m.route, (i : Int), m.ks, m.ss⟩⟩ := ⟨HM5.out.k.below hb10, HM5.out.s.below hb10⟩
              have hwl := HBL.out.size
              have hbu5 := HU5.out.lt
              have hbt5 := HT5.out.lt
              have HSD := Lib.hid (send_m (HN5.out.below hb10) (fun b m => by rw [World.size_alloc]; omega) hmm HF3.out)
              have HU6 := Lib.hid (Box.below HU5.out hb10)
              have HT6 := Lib.hid (Box.below HT5.out hb10)
              have HB6 := Lib.hid (HBL.out.trans (hb10.mono (by omega)))
              clear b10 hb10 hmm HN5 HU5 HT5 HBL HM5
              go_wp2_with fail
              refine HSD.out.mono ?_
              rintro e w6 ⟨rfl, hN, hk6⟩
              rw [HS.out] at hN
              have hU := Box.kept HU6.out hk6 (by simp)
              have hT := Box.kept HT6.out hk6 (by simp)
              obtain ⟨ob, hob⟩ : ∃ ob, us[i]? = some ob := ⟨_, List.getElem?_eq_getElem hul⟩
              have cu : w6.cell? ⟨bu, i, none⟩ = some (.bool ob) := Bx.at hU hob
              have fu := Bx.fz hU i
              have HB7 := Lib.hid (HB6.out.trans (hk6.below (fun b s => by omega) HB6.out.size))
              have HN6 := Lib.hid hN
              have HU7 := Lib.hid hU
              have HT7 := Lib.hid hT
              have HN7 : Hid (NetM (fun b => b < w.heap.size ∨ b = bu ∨ b = bt) p (w6.setCell ⟨bu, i, none⟩ (.bool b)) (qs l js')) := Lib.hid (HN6.out.kept ((Kept.refl (fun k => k = bu) w6).setCell _ _ (fun _ => rfl)) (fun k _ e => .inr (.inl e)))
              have HU8 : Hid (Bx (w6.setCell ⟨bu, i, none⟩ (.bool b)) bu (us.set i b)) := Lib.hid (Bx.set HU7.out i b)
              have HT8 : Hid (Bx (w6.setCell ⟨bu, i, none⟩ (.bool b)) bt ts) := Lib.hid (Box.other HT7.out _ (fun e => hnx e.symm))
              have HB8 : Hid (Below w.heap.size w (w6.setCell ⟨bu, i, none⟩ (.bool b))) := Lib.hid (HB7.out.trans (((Kept.refl (fun k => k = bu) w6).setCell ⟨bu, i, none⟩ (.bool b) (fun _ => rfl)).below (fun k e => by omega) HB7.out.size))
              have HEV : Hid (sendE (qs l js) = if b then 0 else 312) := Lib.hid (by
                have h := HE.out
                unfold sendE at h ⊢
                split <;> rename_i hh
                · rw [if_pos hh] at h
                  rw [← h]; rfl
                · rw [if_neg hh] at h
                  rw [← h]; rfl)
              clear hN hk6 hU hT hob HE HS HSD HU6 HT6 HB6 y0 y1 y2 y3 y4
              cases b with
              | true =>
                rw [HEV.out]
                go_wp2_with fail
                go_meet
                case rel => exact ⟨js', _, fun h => absurd h (by omega), HI'.out, HFS2.out, HN7.out, HU8.out, HT8.out, HB8.out⟩
              | false =>
                rw [HEV.out]
                have HL16 := Lib.hid (len_m HN7.out)
                have hl16 : ((qs l js').length : Int) = 16 := by rw [qs_len, HH16.out rfl]; rfl
                go_wp2_with fail
                refine HL16.out.mono ?_
                rw [hl16]
                rintro e w7 ⟨rfl, rfl⟩
                clear hl16 HL16
                go_wp2_with fail
                go_meet
                case rel => exact ⟨js', _, fun h => absurd h (by omega), HI'.out, HFS2.out, HN7.out, HU8.out, HT8.out, HB8.out⟩
          case' rest =>
            obtain ⟨js', us', hEN, hI', hF', hN', hU', hT', hB'⟩ := hcut
            go_upto_if 80 with fail
        case' neg =>
          go_upto_if 80 with fail
          refine code_gen (fun x => ∃ js' us', (l.length ≤ i → i - l.length + js'.length ≤ 16 ∧ 0 < js'.length) ∧ Inv l (i + 1) js' us' ts ∧ (∀ x ∈ l.take (i + 1), Few x) ∧ NetM (fun b => b < w.heap.size ∨ b = bu ∨ b = bt) p x (qs l js') ∧ Bx x bu us' ∧ Bx x bt ts ∧ Below w.heap.size w x) ⟨js, us, fun _ => ⟨HEND.out (by omega), by omega⟩, HI.out.later, (by
            have h := HF.out
            rw [List.take_of_length_le (by omega)] at h ⊢
            exact h), HN.out, HU.out, HT.out, HB.out⟩ ?_
          rintro wc ⟨js', us', hEN, hI', hF', hN', hU', hT', hB'⟩
        all_goals
          have HEN := Lib.hid hEN
          have HI2 := Lib.hid hI'
          have HF2 := Lib.hid hF'
          have HN2 := Lib.hid hN'
          have HU2 := Lib.hid hU'
          have HT2 := Lib.hid hT'
          have HB2 := Lib.hid hB'
          clear hEN hI' hF' hN' hU' hT' hB' HI HF HN HU HT HB
          go_cut [11] (fun pv wx => (∃ pk : Int, pv = .int .i64 pk) ∧ wx = wc)
          case first =>
            by_cases hp0 : ds.length = 0
            · have hpz : ¬ (0 : Int) < (ds.length : Int) := by omega
              clear hp0
              go_wp2_with fail
              go_meet
              case rel => exact ⟨⟨_, rfl⟩, rfl⟩
            · have hpz : (0 : Int) < (ds.length : Int) := by omega
              have hdn : ¬ ds = [] := by
                rintro rfl
                simp at hp0
              have hpm : (i : Int).tmod (ds.length : Int) = ((i % ds.length : Nat) : Int) := (Int.ofNat_tmod i ds.length).symm
              have hkl : i % ds.length < ds.length := Nat.mod_lt _ (by omega)
              obtain ⟨q, hq⟩ : ∃ q, i % ds.length = q := ⟨_, rfl⟩
              rw [hq] at hpm hkl
              obtain ⟨z, hz⟩ : ∃ z, ds[q]? = some z := ⟨_, List.getElem?_eq_getElem hkl⟩
              obtain ⟨a2, rfl, -, -, hM⟩ := (HD.out.below HB2.out).at hz
              have z0 := hM q z hz 0 _ rfl
              rw [Nat.mul_one, Addr.add_zero'] at z0
              have hkk : (q : Int) < (ds.length : Int) := by omega
              clear hM hz hq
              go_wp2_with fail
              go_meet
              case rel => exact ⟨⟨_, rfl⟩, rfl⟩
          case' rest =>
            obtain ⟨⟨pk, rfl⟩, rfl⟩ := hcut
            go_upto_if 98 with fail
        all_goals
          by_cases hcont : i < l.length ∧ (pk.tmod 2 == 0) = true
          case pos =>
            obtain ⟨hc1, hc2⟩ := hcont
            have hc3 : pk.tmod 2 = 0 := by simpa using hc2
            first | (exact absurd hc1 hi) | (rw [hc3]; clear hc2 hc3; go_wp2_with fail; exact ⟨⟨i + 1, js', us', ts, by simp, by simp, HI2.out, (fun _ => by have := HI2.out.len; omega), HF2.out, HN2.out, HU2.out, HT2.out, HB2.out⟩, by simp [intOf]; omega⟩)
          case' neg =>
            have hcd : ¬ (i : Int) < (l.length : Int) ∨ ((i : Int) < (l.length : Int) ∧ (pk.tmod 2 == 0) = false) := by
              by_cases hh : i < l.length
              · right
                refine ⟨by omega, ?_⟩
                cases hm : (pk.tmod 2 == 0) with
                | false => rfl
                | true => exact absurd ⟨hh, hm⟩ hcont
              · left
                omega
            clear hcont
        all_goals
          have hji : js'.length ≤ 16 := HI2.out.len
          have hlq : ((qs l js').length : Int) = (js'.length : Int) := by rw [qs_len]
          rcases hcd with hcd | ⟨hcd, hmd⟩
        all_goals first | (exfalso; omega) | skip
        all_goals
          go_upto_region 24 with fail
        all_goals
          try clear hmd
          go_wp2_with fail
          refine (len_m HN2.out).mono ?_
          rw [hlq]
          rintro e w8 ⟨rfl, rfl⟩
          clear hlq
          go_upto_region 25 with fail
        all_goals
          by_cases hz : js'.length = 0
          case pos =>
            obtain rfl : js' = [] := List.eq_nil_of_length_eq_zero hz
            have hil : i < l.length := by
              rcases Nat.lt_or_ge i l.length with h | h
              · exact h
              · have := (HEN.out h).2
                simp at this
            clear hz
            first | (exfalso; omega) | (go_wp2_with fail; refine (take_m0 (M := fun b => b < w.heap.size ∨ b = bu ∨ b = bt) (p := p) HN2.out).mono ?_; rintro e w9 ⟨rfl, hb⟩; have hb9 := below_then hb ((Below.refl _ w9).alloc (Nat.le_refl _) (.cells zm 33)); have HN9 := Lib.hid (HN2.out.below hb9); have HU9 := Lib.hid (Box.below HU2.out hb9); have HT9 := Lib.hid (Box.below HT2.out hb9); have HB9 := Lib.hid (HB2.out.trans (hb9.mono HB2.out.size)); clear hb hb9; unfold zeroM; go_wp2_with fail; exact ⟨⟨i + 1, [], us', ts, by simp, by simp, HI2.out, (fun _ => by simp; omega), HF2.out, HN9.out, HU9.out, HT9.out, HB9.out⟩, by simp [intOf]; omega⟩)
          case' neg =>
            have hpos : 0 < js'.length := by omega
            clear hz
        all_goals
          go_wp2_with fail
          refine (take_m HN2.out (by rw [qs_len]; exact hpos) (by rw [qs_len]; omega)).mono ?_
          rintro e w9 ⟨⟨kv, sv, m⟩, rfl, hx, hm, hN, hk9⟩
          obtain ⟨q1, d1, e3, -, -⟩ := hm.k.len
          obtain ⟨q2, d2, e4, -, -⟩ := hm.s.len
          simp only at e3 e4 hx
          subst e3 e4
          obtain ⟨idx, hidx⟩ : ∃ idx, pick pk (qs l js').length = idx := ⟨_, rfl⟩
          rw [hidx] at hx hN
          clear hidx
          obtain ⟨j, hj, hjm⟩ : ∃ j, js'[idx]? = some j ∧ mkM l j = m := by
            unfold qs at hx
            rw [List.getElem?_map] at hx
            obtain ⟨j, h1, h2⟩ := Option.map_eq_some_iff.1 hx
            exact ⟨j, h1, h2⟩
          have hil := (List.getElem?_eq_some_iff.1 hj).1
          obtain ⟨hj1, hj2, hj3, hj4⟩ := HI2.out.mem j (List.mem_of_getElem? hj)
          obtain ⟨x, hxl⟩ : ∃ x, l[j]? = some x := ⟨_, List.getElem?_eq_getElem hj1⟩
          rw [mk_at hxl] at hjm
          subst hjm
          simp only
          have hfx : Few x := HF2.out x (List.mem_of_getElem? (i := j) (by rw [List.getElem?_take, if_pos hj2]; exact hxl))
          have hTI := HI2.out.take hj
          have hNe : NetM (fun b => b < w.heap.size ∨ b = bu ∨ b = bt) p w9 (qs l (js'.eraseIdx idx)) := by
            unfold qs
            rw [map_eraseIdx']
            exact hN
          have HB9 := Lib.hid (HB2.out.trans (hk9.below (fun b s => by omega) HB2.out.size))
          have hU9 := Box.kept HU2.out hk9 (by simp)
          have hT9 := Box.kept HT2.out hk9 (by simp)
          have b13 := Box.new w9 (mc ⟨.slice q1 x.ks.length d1, .slice q2 x.ss.length d2, ⟨x.rule, x.route, (j : Int), x.ks, x.ss⟩⟩) 33
          have hb13 : Below w9.heap.size w9 (w9.alloc (.cells (mc ⟨.slice q1 x.ks.length d1, .slice q2 x.ss.length d2, ⟨x.rule, x.route, (j : Int), x.ks, x.ss⟩⟩) 33)) := (Below.refl _ w9).alloc (Nat.le_refl _) _
          have HM := Lib.hid (hm.below hb13)
          have HN13 := Lib.hid (hNe.below hb13)
          have HU13 := Lib.hid (Box.below hU9 hb13)
          have HT13 := Lib.hid (Box.below hT9 hb13)
          have HB13 := Lib.hid (HB9.out.trans (hb13.mono HB9.out.size))
          have HTI := Lib.hid hTI
          have HFX := Lib.hid hfx
          have HJ3 := Lib.hid hj3
          have HJ4 := Lib.hid hj4
          have HXL := Lib.hid hxl
          have HIL := Lib.hid hil
          clear hx hm hN hk9 hj hj3 hj4 hxl hil hfx hTI hNe hU9 hT9
        all_goals
          have cj : (w9.alloc (.cells (mc ⟨.slice q1 x.ks.length d1, .slice q2 x.ss.length d2, ⟨x.rule, x.route, (j : Int), x.ks, x.ss⟩⟩) 33)).cell? ⟨bu, j, none⟩ = some (.bool true) := Bx.at HU13.out HJ3.out
          have ct : (w9.alloc (.cells (mc ⟨.slice q1 x.ks.length d1, .slice q2 x.ss.length d2, ⟨x.rule, x.route, (j : Int), x.ks, x.ss⟩⟩) 33)).cell? ⟨bt, j, none⟩ = some (.bool false) := Bx.at HT13.out HJ4.out
          have hj0 : ¬ (j : Int) < 0 := by omega
          have hjl : (j : Int) < (l.length : Int) := by omega
          have HLN := Lib.hid (len_m HN13.out)
          have hln : ((qs l (js'.eraseIdx idx)).length : Int) = (js'.length : Int) - 1 := by rw [qs_len, List.length_eraseIdx_of_lt HIL.out]; omega
          have HLE := Lib.hid hln
          clear hln
          go_wp2_with fail
        all_goals
          refine HLN.out.mono ?_
          rw [HLE.out]
          rintro e w10 ⟨rfl, rfl⟩
          have hl13 := b13.lt
          obtain ⟨W9, hW9⟩ : ∃ W9, (w9.alloc (.cells (mc ⟨.slice q1 x.ks.length d1, .slice q2 x.ss.length d2, ⟨x.rule, x.route, (j : Int), x.ks, x.ss⟩⟩) 33)) = W9 := ⟨_, rfl⟩
          rw [hW9] at b13 hl13 HM HN13 HU13 HT13 HB13 ⊢
          have c13 := b13.rd.1
          have H13 := Lib.hid b13
          clear cj ct HLN HLE hb13 hW9 b13
          obtain ⟨a1, ⟨kv, sv, m⟩, rfl, e1, g1, x0, x1, x2, x3, x4⟩ := (HL.out.below HB13.out).at HXL.out
          obtain ⟨q3, d3, e3, -, -⟩ := g1.k.len
          obtain ⟨q4, d4, e4, -, -⟩ := g1.s.len
          simp only at e3 e4 x0 x1 x2 x3 x4 e1
          subst e3 e4
          subst e1
          have HG := Lib.hid g1
          clear g1
          go_wp2_with fail
        all_goals
          obtain ⟨X, hX⟩ : ∃ X, (W9.alloc (.cells (mc ⟨.slice q3 m.ks.length d3, .slice q4 m.ss.length d4, ⟨m.rule, m.route, (j : Int), m.ks, m.ss⟩⟩) 33)) = X := ⟨_, rfl⟩
          have hz : X.heap.size = W9.heap.size + 1 := by rw [← hX, World.size_alloc]
          have hbX : Below W9.heap.size W9 X := by rw [← hX]; exact (Below.refl _ W9).alloc (Nat.le_refl _) _
          have HST := same_two (X := X) (la := [⟨.slice q1 m.ks.length d1, .slice q2 m.ss.length d2, ⟨m.rule, m.route, (j : Int), m.ks, m.ss⟩⟩]) (lb := [⟨.slice q3 m.ks.length d3, .slice q4 m.ss.length d4, ⟨m.rule, m.route, (j : Int), m.ks, m.ss⟩⟩]) (n := 1)
            (fun r hr => by
              simp at hr
              subst hr
              exact ⟨(HM.out.k.below hbX).mono (fun _ _ _ => trivial), (HM.out.s.below hbX).mono (fun _ _ _ => trivial)⟩)
            (fun r hr => by
              simp at hr
              subst hr
              exact ⟨(HG.out.k.below hbX).mono (fun _ _ _ => trivial), (HG.out.s.below hbX).mono (fun _ _ _ => trivial)⟩) rfl
            (fun r hr => by
              simp at hr
              subst hr
              exact HFX.out) rfl rfl (by decide)
          rw [hz] at HST
          have HS1 := Lib.hid HST.1
          rw [hX]
          clear HST hX x0 x1 x2 x3 x4 c13
          refine HS1.out.mono ?_
          rintro e w11 ⟨rfl, hb⟩
          have hb11 := below_then (below_then hbX (((Below.refl _ X).alloc (Nat.le_refl _) _).alloc (by simp) _)) hb
          have hU11 := Box.below HU13.out hb11
          have hT11 := Box.below HT13.out hb11
          have hN11 := HN13.out.below hb11
          have HB11 := Lib.hid (HB13.out.trans (hb11.mono HB13.out.size))
          have ct : w11.cell? ⟨bt, j, none⟩ = some (.bool false) := Bx.at hT11 HJ4.out
          have ft := Bx.fz hT11 j
          have c14 := (H13.out.below hb11).rd.1
          have HN15 : Hid (NetM (fun b => b < w.heap.size ∨ b = bu ∨ b = bt) p (w11.setCell ⟨bt, j, none⟩ (.bool true)) (qs l (js'.eraseIdx idx))) := Lib.hid (hN11.kept ((Kept.refl (fun k => k = bt) w11).setCell _ _ (fun _ => rfl)) (fun k _ e => .inr (.inr e)))
          have HT15 : Hid (Bx (w11.setCell ⟨bt, j, none⟩ (.bool true)) bt (ts.set j true)) := Lib.hid (Bx.set hT11 j true)
          have HU15 : Hid (Bx (w11.setCell ⟨bt, j, none⟩ (.bool true)) bu us') := Lib.hid (Box.other hU11 _ hnx)
          have HB15 : Hid (Below w.heap.size w (w11.setCell ⟨bt, j, none⟩ (.bool true))) := Lib.hid (HB11.out.trans (((Kept.refl (fun k => k = bt) w11).setCell ⟨bt, j, none⟩ (.bool true) (fun _ => rfl)).below (fun k e => by omega) HB11.out.size))
          have HEL : Hid (l.length ≤ i + 1 → i + 1 - l.length + (js'.eraseIdx idx).length ≤ 16) := Lib.hid (fun h => by
            rw [List.length_eraseIdx_of_lt HIL.out]
            by_cases hh : l.length ≤ i
            · have := HEN.out hh
              omega
            · omega)
          clear hb hb11 hU11 hT11 hN11 hbX HS1 hz
          go_wp2_with fail
          exact ⟨⟨i + 1, js'.eraseIdx idx, us', ts.set j true, by simp, by simp, HTI.out, HEL.out, HF2.out, HN15.out, HU15.out, HT15.out, HB15.out⟩, by simp [intOf]; omega⟩
      · obtain rfl : js = [] := List.eq_nil_of_length_eq_zero (by omega)
        obtain rfl := hI.done
        have hul := hI.lu
        have hik : ¬ (i : Int) < (l.length : Int) := by omega
        have HI := Lib.hid hI
        have HN := Lib.hid hN
        have HU := Lib.hid hU
        have HT := Lib.hid hT
        have HB := Lib.hid hB
        have HUL := Lib.hid hul
        clear hI hend hF hN hU hT hB hgo hul
        go_wp2_with fail
        refine (len_m (M := fun b => b < w.heap.size ∨ b = bu ∨ b = bt) (xs := []) HN.out).mono ?_
        rintro e w5 ⟨rfl, rfl⟩
        go_wp2_with fail
        go_loopw [16] (fun iv_ wx => ∃ k : Nat, iv_ = .int .i64 k ∧ k ≤ l.length ∧ Below wr.heap.size wr wx) (fun iv_ _ => l.length - (intOf iv_).toNat)
        · exact ⟨0, rfl, by omega, Below.refl _ _⟩
        obtain ⟨k, rfl, hk, hB⟩ := hrel
        by_cases hlt : k < l.length
        · obtain ⟨u, hu⟩ : ∃ u, us[k]? = some u := ⟨_, List.getElem?_eq_getElem (by rw [HUL.out]; exact hlt)⟩
          have x0 := Bx.at (Box.below HU.out hB) hu
          have y0 := Bx.at (Box.below HT.out hB) hu
          have hkk : (k : Int) < (l.length : Int) := by omega
          clear hu
          go_wp2_with fail
          refine still_all (by kernel_rfl) (by kernel_rfl) ?_
          repeat still_step
          refine wpStill_nil ?_
          clear x0 y0
          go_wp2_with fail
          exact ⟨⟨k + 1, by simp, by omega, hB.drew⟩, by simp [intOf]; omega⟩
        · obtain rfl : k = l.length := by omega
          have HB9 := Lib.hid (HB.out.trans (hB.mono HB.out.size))
          have HLN := Lib.hid (len_m (M := fun b => b < w.heap.size ∨ b = bu ∨ b = bt) (xs := []) (HN.out.below hB))
          clear hB
          go_wp2_with fail
          refine HLN.out.mono ?_
          rintro e w6 ⟨rfl, rfl⟩
          go_wp2_with fail
          go_ret
          exact ⟨rfl, HB9.out⟩
  · have hbad : (100 : Int) < (l.length : Int) ∨ (¬ (100 : Int) < (l.length : Int) ∧ (300 : Int) < (ds.length : Int)) := by omega
    clear hok HL HD
    rcases hbad with h1 | ⟨h1, h2⟩
    all_goals
      go_enter Try.func3, Try.ntmps3
      go_wp2_with fail
      refine (awake_any _).mono ?_
      rintro e w1 ⟨rfl, hb⟩
      have HB := Lib.hid hb
      clear hb
      go_wp2_with fail
      go_ret
      exact ⟨rfl, HB.out⟩
end Go.Proofs.Ytmmneeikcnapmaa
