/- drr.Turns, tocsinref21.Turns -/
import Derived.Test.YthligipgmicgfaaDrrS
import Derived.Test.YthligipgmicgfaaDrrR
import Derived.Test.YthligipgmicgfaaQOrd
namespace Go.Proofs.Ythligipgmicgfaa
open Go.RowKit
attribute [local go_sem] Oper.semAt_some

/-- costs that may be -/
def Fair (xs : List It) : Prop := ∀ x ∈ xs, 1 ≤ x.cost ∧ x.cost ≤ 256
theorem sv_out (xs : List It) (d : Int) : ∀ x ∈ (sv xs d).1, x ∈ xs := fun x hx => by rw [← sv_app xs d]; exact List.mem_append_left _ hx
theorem sv_rest (xs : List It) (d : Int) : ∀ x ∈ (sv xs d).2.1, x ∈ xs := fun x hx => by rw [← sv_app xs d]; exact List.mem_append_right _ hx
theorem sv_len (xs : List It) (d : Int) : (sv xs d).1.length + (sv xs d).2.1.length = xs.length := by
  have := congrArg List.length (sv_app xs d)
  rwa [List.length_append] at this
theorem costs_app (xs ys : List It) : costs (xs ++ ys) = costs xs + costs ys := by unfold costs; rw [List.map_append, List.sum_append]
theorem costs_sv (xs : List It) (d : Int) : costs (sv xs d).1 + costs (sv xs d).2.1 = costs xs := by rw [← costs_app, sv_app]
theorem sv_what {xs : List It} {d : Int} (hd : 0 ≤ d) : ((sv xs d).2.1 = [] ∧ (sv xs d).2.2 = 0 ∧ costs (sv xs d).1 ≤ d) ∨ ∃ x ys, (sv xs d).2.1 = x :: ys ∧ 0 ≤ (sv xs d).2.2 ∧ (sv xs d).2.2 < x.cost ∧ costs (sv xs d).1 + (sv xs d).2.2 = d := by
  induction xs generalizing d with
  | nil => exact .inl ⟨rfl, rfl, hd⟩
  | cons x xs ih =>
    by_cases h : x.cost ≤ d
    · rw [sv_yes h]
      have hc : costs (x :: (sv xs (d - x.cost)).1) = x.cost + costs (sv xs (d - x.cost)).1 := by unfold costs; simp
      rcases ih (d := d - x.cost) (by omega) with ⟨h1, h2, h3⟩ | ⟨y, ys, h1, h2, h3, h4⟩
      · refine .inl ⟨h1, h2, ?_⟩
        show costs (x :: (sv xs (d - x.cost)).1) ≤ d
        omega
      · refine .inr ⟨y, ys, h1, h2, h3, ?_⟩
        show costs (x :: (sv xs (d - x.cost)).1) + (sv xs (d - x.cost)).2.2 = d
        omega
    · rw [sv_no h]
      exact .inr ⟨x, xs, rfl, hd, by show d < x.cost; omega, by show costs [] + d = d; simp [costs]⟩
theorem sv_left {xs : List It} {d : Int} (hf : Fair xs) (hd : 0 ≤ d) : 0 ≤ (sv xs d).2.2 ∧ (sv xs d).2.2 ≤ 256 := by
  rcases sv_what (xs := xs) hd with ⟨_, h2, _⟩ | ⟨x, ys, h1, h2, h3, _⟩
  · omega
  · have := hf x (sv_rest xs d x (by rw [h1]; simp))
    omega
theorem Fair.rest {xs : List It} (h : Fair xs) (d : Int) : Fair (sv xs d).2.1 := fun x hx => h x (sv_rest xs d x hx)
theorem Fair.out {xs : List It} (h : Fair xs) (d : Int) : Fair (sv xs d).1 := fun x hx => h x (sv_out xs d x hx)
/-- so many turns until no more than m wait -/
inductive Tn (m : Nat) : List It → Int → Nat → Prop
  | done {xs : List It} {d : Int} : xs.length ≤ m → Tn m xs d 0
  | turn {xs : List It} {d : Int} {n : Nat} : ¬ xs.length ≤ m → Tn m (sv xs (d + 64)).2.1 (sv xs (d + 64)).2.2 n → Tn m xs d (n + 1)
def mu (xs : List It) (d : Int) : Nat := if xs = [] then 0 else (costs xs - d + 321).toNat
theorem mu_less {xs : List It} {d : Int} (hf : Fair xs) (h0 : 0 ≤ d) (h1 : d ≤ 256) (hx : xs ≠ []) : mu (sv xs (d + 64)).2.1 (sv xs (d + 64)).2.2 < mu xs d := by
  have hc := costs_sv xs (d + 64)
  have hp : 1 ≤ costs xs := by
    match xs, hx with
    | x :: xs, _ =>
      have a := hf x (List.mem_cons_self)
      have b := (costs_le (xs := xs) (fun y hy => hf y (List.mem_cons_of_mem _ hy))).1
      unfold costs at b ⊢
      rw [List.map_cons, List.sum_cons]
      omega
  have hm : mu xs d = (costs xs - d + 321).toNat := by unfold mu; rw [if_neg hx]
  rw [hm]
  rcases sv_what (xs := xs) (d := d + 64) (by omega) with ⟨k1, k2, k3⟩ | ⟨x, ys, k1, k2, k3, k4⟩
  · rw [k1, k2]
    unfold mu
    rw [if_pos rfl]
    omega
  · unfold mu
    rw [if_neg (by rw [k1]; simp)]
    omega
theorem tn_ex (m : Nat) {xs : List It} {d : Int} (hf : Fair xs) (h0 : 0 ≤ d) (h1 : d ≤ 256) : ∃ n, Tn m xs d n ∧ n ≤ mu xs d := by
  obtain ⟨k, hk⟩ : ∃ k, mu xs d < k := ⟨_, Nat.lt_succ_self _⟩
  induction k generalizing xs d with
  | zero => omega
  | succ k ih =>
    by_cases hl : xs.length ≤ m
    · exact ⟨0, .done hl, Nat.zero_le _⟩
    · have hx : xs ≠ [] := fun e => hl (by rw [e]; simp)
      have hm := mu_less hf h0 h1 hx
      have hv := sv_left (xs := xs) (d := d + 64) hf (by omega)
      obtain ⟨n, hn, hle⟩ := ih (hf.rest (d + 64)) hv.1 hv.2 (by omega)
      exact ⟨n + 1, .turn hl hn, by omega⟩
def okT (xs : List It) (d i : Int) : Prop := 0 ≤ i ∧ i < xs.length ∧ 0 ≤ d ∧ d ≤ 256 ∧ xs.length ≤ 8 ∧ Fair xs
structure TN (xs : List It) (d i : Int) (N : Nat) : Prop where
  ok : okT xs d i → Tn (xs.length - 1 - i.toNat) xs d N
  no : ¬ okT xs d i → N = 0
  le : N ≤ 10000
theorem TN_ex (xs : List It) (d i : Int) : ∃ N, TN xs d i N := by
  by_cases h : okT xs d i
  · obtain ⟨N, h1, h2⟩ := tn_ex (xs.length - 1 - i.toNat) (xs := xs) (d := d) h.2.2.2.2.2 h.2.2.1 h.2.2.2.1
    refine ⟨N, fun _ => h1, fun hn => absurd h hn, ?_⟩
    have := (costs_le h.2.2.2.2.2).2
    have h8 := h.2.2.2.2.1
    have h0 := h.2.2.1
    unfold mu at h2
    split at h2
    · omega
    · omega
  · exact ⟨0, fun hh => absurd hh h, fun _ => rfl, by omega⟩
theorem fair_may {x : It} : mayCost x = true ↔ 1 ≤ x.cost ∧ x.cost ≤ 256 := by unfold mayCost; simp
set_option maxRecDepth 100000 in
set_option maxHeartbeats 4000000 in
theorem drrTurns_any {S : Nat → Prop} {v : Value} {w : World} {xs : List It} {d i : Int} {N : Nat} (h : Its S w v xs) (hn : xs.length * 48 ≤ 140737488351232) (hN : TN xs d i N) : Calls Try.prog 32 #[v, .int .i64 d, .int .i64 i] w (Tells (.int .i64 N) w) := by
  obtain ⟨p, c, rfl⟩ := h.slice
  have HK := Lib.hid h
  have HT := Lib.hid hN
  have HM := Lib.hid (fun W => may_any d W)
  clear h hN
  by_cases hi0 : 0 ≤ i
  · by_cases hi1 : i < xs.length
    · by_cases hd : 0 ≤ d ∧ d ≤ 256
      · obtain ⟨hd0, hd1⟩ := hd
        have hm : mayB d = true := by unfold mayB; simp [hd0, hd1]
        rw [hm] at HM
        clear hm
        go_enter Try.func32, Try.ntmps32
        go_wp2_with fail
        refine (HM.out _).mono ?_
        rintro e w1 ⟨rfl, rfl⟩
        go_wp2_with fail
        refine (new_any _).mono ?_
        rintro e w1 ⟨rfl, hb, hq⟩
        have HQ1 := Lib.hid hq
        have HB1 := Lib.hid hb
        clear hb hq
        obtain ⟨q, hq0⟩ : ∃ q, q = w.heap.size := ⟨_, rfl⟩
        rw [← hq0] at HQ1 ⊢
        have hwq : w.heap.size ≤ q := by omega
        clear hq0
        go_wp2_with fail
        go_loopw [27] (fun j wr => ∃ k : Nat, j = .int .i64 k ∧ k ≤ xs.length ∧ k ≤ 8 ∧ Fair (xs.take k) ∧ QAt (fun b => b ≠ q) q wr (xs.take k) ∧ Below w.heap.size w wr) (fun j _ => xs.length - (intOf j).toNat)
        · exact ⟨0, rfl, by omega, by omega, (fun x hx => by cases hx), HQ1.out, HB1.out⟩
        obtain ⟨k, rfl, hk, hk8, hf, hq, hb⟩ := hrel
        have HQ2 := Lib.hid hq
        have HB2 := Lib.hid hb
        have HF := Lib.hid hf
        clear hq hb hf HQ1 HB1
        by_cases hlt : k < xs.length
        · obtain ⟨x, hx⟩ : ∃ x, xs[k]? = some x := ⟨_, List.getElem?_eq_getElem hlt⟩
          obtain ⟨a, lv, rfl, hl, x0, x1, x2, x3⟩ := (HK.out.below HB2.out).at hx
          obtain ⟨p1, q1, rfl⟩ := hl.slice
          have HTS := Lib.hid (take_snoc hx)
          have hkk : (k : Int) < (xs.length : Int) := by omega
          have HL := Lib.hid hl
          have HX := Lib.hid hx
          have HBL : Hid ((xs.take k).length = k) := Lib.hid (by rw [List.length_take]; omega)
          have hba := (Below.refl _ wr).alloc (Nat.le_refl _) (.cells #[.slice p1 x.ls.length q1, .int .i64 x.at_, .int .i64 x.vl, .int .i64 x.cost] 32)
          have HQ3 := Lib.hid (HQ2.out.below hba)
          have HL3 := Lib.hid (HL.out.below hba)
          have HB3 := Lib.hid (HB2.out.trans (hba.mono HB2.out.size))
          have hqs := HQ2.out.lt
          clear hx hl hba
          by_cases hpu : mayCost x = true ∧ k < 8
          · obtain ⟨hm1, hk2⟩ := hpu
            have HM1 := Lib.hid hm1
            clear hm1
            go_wp2_with fail
            refine (push_yes' (x := x) HQ3.out HL3.out (fun b hb => by rw [World.size_alloc] at hb; omega) HM1.out (by rw [HBL.out]; exact hk2)).mono ?_
            rintro e w2 ⟨rfl, hq, hkp⟩
            have HQ4 := Lib.hid hq
            have HB4 := Lib.hid (HB3.out.trans (hkp.below (fun b e => by omega) HB3.out.size))
            clear hq hkp HQ3 HB3 HL3 HQ2 HB2 HL
            go_wp2_with fail
            refine ⟨⟨k + 1, by simp, by omega, by omega, ?_, by rw [HTS.out]; exact HQ4.out, HB4.out⟩, by simp [intOf]; omega⟩
            rw [HTS.out]
            intro y hy
            rcases List.mem_append.1 hy with hy | hy
            · exact HF.out y hy
            · obtain rfl := List.mem_singleton.1 hy
              exact fair_may.1 HM1.out
          · have HPU := Lib.hid hpu
            have HN0 : Hid (N = 0) := Lib.hid (HT.out.no (fun h => by
              have h8 := h.2.2.2.2.1
              exact HPU.out ⟨fair_may.2 (h.2.2.2.2.2 x (List.mem_of_getElem? HX.out)), by omega⟩))
            clear hpu
            go_wp2_with fail
            refine (push_no' (x := x) HQ3.out HL3.out (fun b hb => by rw [World.size_alloc] at hb; omega) (by rw [HBL.out]; exact HPU.out)).mono ?_
            rintro e w2 ⟨r, hr, rfl, hq, hkp⟩
            have HB4 := Lib.hid (HB3.out.trans (hkp.below (fun b e => by omega) HB3.out.size))
            have hr0 : ¬ r = 0 := by simpa using hr
            clear hq hkp
            go_wp2_with fail
            go_ret
            rw [HN0.out]
            exact ⟨rfl, HB4.out⟩
        · obtain rfl : k = xs.length := by omega
          rw [List.take_length] at HQ2 HF
          have HTN := Lib.hid (HT.out.ok ⟨hi0, hi1, hd0, hd1, hk8, HF.out⟩)
          have hNle := HT.out.le
          clear HT hk
          go_wp2_with fail
          go_loopw [1, 10] (fun ds t wr => ∃ (k : Nat) (ys : List It) (e : Int), ds = .int .i64 e ∧ t = .int .i64 k ∧ 0 ≤ e ∧ e ≤ 256 ∧ k ≤ N ∧ Tn (xs.length - 1 - i.toNat) ys e (N - k) ∧ Fair ys ∧ ys.length ≤ xs.length ∧ QAt (fun b => b ≠ q) q wr ys ∧ Below w.heap.size w wr) (fun _ t _ => N - (intOf t).toNat)
          · exact ⟨0, xs, d, rfl, rfl, hd0, hd1, Nat.zero_le _, HTN.out, HF.out, Nat.le_refl _, HQ2.out, HB2.out⟩
          obtain ⟨k, ys, e, rfl, rfl, he0, he1, hkN, hT, hf, hyl, hq, hb⟩ := hrel
          have HQ3 := Lib.hid hq
          have HB3 := Lib.hid hb
          have HF3 := Lib.hid hf
          have HT3 := Lib.hid hT
          clear hq hb hf hT HQ2 HB2 HF HTN
          by_cases hle : ys.length ≤ xs.length - 1 - i.toNat
          · have hgt : ¬ (xs.length : Int) - 1 - i < (ys.length : Int) := by omega
            have HNK : Hid (N = k) := Lib.hid (by
              have := HT3.out
              generalize hz : N - k = z at this
              cases this with
              | done _ => omega
              | turn h1 _ => exact absurd hle h1)
            go_wp2_with fail
            refine (len_any HQ3.out).mono ?_
            rintro e1 w2 ⟨rfl, rfl⟩
            go_wp2_with fail
            go_ret
            rw [HNK.out]
            exact ⟨rfl, HB3.out⟩
          · have hgt : (xs.length : Int) - 1 - i < (ys.length : Int) := by omega
            have HNK : Hid (k < N ∧ Tn (xs.length - 1 - i.toNat) (sv ys (e + 64)).2.1 (sv ys (e + 64)).2.2 (N - (k + 1))) := Lib.hid (by
              have := HT3.out
              generalize hz : N - k = z at this
              cases this with
              | done h1 => exact absurd h1 hle
              | @turn _ _ n _ h2 =>
                have e0 : N - (k + 1) = n := by omega
                exact ⟨by omega, by rw [e0]; exact h2⟩)
            go_wp2_with fail
            refine (len_any HQ3.out).mono ?_
            rintro e1 w2 ⟨rfl, rfl⟩
            go_wp2_with fail
            refine (drrServe_any HQ3.out he0 he1 (by omega) HF3.out).mono ?_
            rintro e1 w2 ⟨v1, rs, rfl, hr, hq, hkp⟩
            have HQ4 := Lib.hid hq
            have hqs := HQ3.out.lt
            have HB4 := Lib.hid (HB3.out.trans (hkp.below (fun b e => by omega) HB3.out.size))
            have hkN2 := HNK.out.1
            have hv := sv_left (xs := ys) (d := e + 64) HF3.out (by omega)
            have HV := Lib.hid hv
            have hsl := sv_len ys (e + 64)
            clear hq hkp hr hv HQ3 HB3
            go_wp2_with fail
            exact ⟨⟨k + 1, _, _, rfl, by simp, HV.out.1, HV.out.2, by omega, HNK.out.2, HF3.out.rest _, by omega, HQ4.out, HB4.out⟩, by simp [intOf]; omega⟩
      · have hm : mayB d = false := by unfold mayB; rw [Bool.and_eq_false_iff, decide_eq_false_iff_not, decide_eq_false_iff_not]; omega
        have HN0 : Hid (N = 0) := Lib.hid (HT.out.no (fun h => hd ⟨h.2.2.1, h.2.2.2.1⟩))
        rw [hm] at HM
        clear hm
        go_enter Try.func32, Try.ntmps32
        go_wp2_with fail
        refine (HM.out _).mono ?_
        rintro e w1 ⟨rfl, rfl⟩
        go_wp2_with fail
        go_ret
        rw [HN0.out]
        exact ⟨rfl, Below.refl _ _⟩
    · have HN0 : Hid (N = 0) := Lib.hid (HT.out.no (fun h => hi1 h.2.1))
      go_enter Try.func32, Try.ntmps32
      go_wp2_with fail
      go_ret
      rw [HN0.out]
      exact ⟨rfl, Below.refl _ _⟩
  · have HN0 : Hid (N = 0) := Lib.hid (HT.out.no (fun h => hi0 h.1))
    go_enter Try.func32, Try.ntmps32
    go_wp2_with fail
    go_ret
    rw [HN0.out]
    exact ⟨rfl, Below.refl _ _⟩
set_option maxRecDepth 100000 in
set_option maxHeartbeats 4000000 in
theorem refTurns_any {S : Nat → Prop} {v : Value} {w : World} {xs : List It} {d i : Int} {N : Nat} (h : Its S w v xs) (hn : xs.length * 48 ≤ 140737488351232) (hN : TN xs d i N) : Calls Try.prog 33 #[v, .int .i64 d, .int .i64 i] w (Tells (.int .i64 N) w) := by
  obtain ⟨p, c, rfl⟩ := h.slice
  have HK := Lib.hid h
  have HT := Lib.hid hN
  clear h hN
  by_cases hi0 : 0 ≤ i
  · by_cases hi1 : i < xs.length
    · by_cases hd0 : 0 ≤ d
      · by_cases hd1 : d ≤ 256
        · by_cases h8 : xs.length ≤ 8
          · go_enter Try.func33, Try.ntmps33
            go_wp2_with fail
            go_loopw [7] (fun j wr => ∃ k : Nat, j = .int .i64 k ∧ k ≤ xs.length ∧ Fair (xs.take k) ∧ wr = w) (fun j _ => xs.length - (intOf j).toNat)
            · exact ⟨0, rfl, by omega, (fun x hx => by cases hx), rfl⟩
            obtain ⟨k, rfl, hk, hf, rfl⟩ := hrel
            have HF := Lib.hid hf
            clear hf
            by_cases hlt : k < xs.length
            · obtain ⟨x, hx⟩ : ∃ x, xs[k]? = some x := ⟨_, List.getElem?_eq_getElem hlt⟩
              obtain ⟨a, lv, rfl, hl, x0, x1, x2, x3⟩ := HK.out.at hx
              have HTS := Lib.hid (take_snoc hx)
              have hkk : (k : Int) < (xs.length : Int) := by omega
              have HX := Lib.hid hx
              clear hx hl
              by_cases hc1 : 1 ≤ x.cost
              · by_cases hc2 : x.cost ≤ 256
                · go_wp2_with fail
                  refine ⟨⟨k + 1, by simp, by omega, ?_, trivial⟩, by simp [intOf]; omega⟩
                  rw [HTS.out]
                  intro y hy
                  rcases List.mem_append.1 hy with hy | hy
                  · exact HF.out y hy
                  · obtain rfl := List.mem_singleton.1 hy
                    exact ⟨hc1, hc2⟩
                · have HN0 : Hid (N = 0) := Lib.hid (HT.out.no (fun h => hc2 (h.2.2.2.2.2 x (List.mem_of_getElem? HX.out)).2))
                  go_wp2_with fail
                  go_ret
                  rw [HN0.out]
                  exact ⟨rfl, Below.refl _ _⟩
              · have HN0 : Hid (N = 0) := Lib.hid (HT.out.no (fun h => hc1 (h.2.2.2.2.2 x (List.mem_of_getElem? HX.out)).1))
                go_wp2_with fail
                go_ret
                rw [HN0.out]
                exact ⟨rfl, Below.refl _ _⟩
            · obtain rfl : k = xs.length := by omega
              rw [List.take_length] at HF
              have HTN := Lib.hid (HT.out.ok ⟨hi0, hi1, hd0, hd1, h8, HF.out⟩)
              have hNle := HT.out.le
              clear HT hk
              go_wp2_with fail
              go_loopw [1, 8, 9] (fun ds t lv w2 => ∃ (k : Nat) (ys : List It) (e : Int), ds = .int .i64 e ∧ t = .int .i64 k ∧ 0 ≤ e ∧ e ≤ 256 ∧ k ≤ N ∧ Tn (xs.length - 1 - i.toNat) ys e (N - k) ∧ Fair ys ∧ ys.length ≤ xs.length ∧ Its S w2 lv ys ∧ Below wr.heap.size wr w2) (fun _ t _ _ => N - (intOf t).toNat)
              · exact ⟨0, xs, d, rfl, rfl, hd0, hd1, Nat.zero_le _, HTN.out, HF.out, Nat.le_refl _, HK.out, Below.refl _ _⟩
              obtain ⟨k, ys, e, rfl, rfl, he0, he1, hkN, hT, hf, hyl, hq, hb⟩ := hrel
              obtain ⟨p2, c2, rfl⟩ := hq.slice
              have HQ3 := Lib.hid hq
              have HB3 := Lib.hid hb
              have HF3 := Lib.hid hf
              have HT3 := Lib.hid hT
              clear hq hb hf hT HF HTN
              by_cases hle : ys.length ≤ xs.length - 1 - i.toNat
              · have hgt : ¬ (xs.length : Int) - 1 - i < (ys.length : Int) := by omega
                have HNK : Hid (N = k) := Lib.hid (by
                  have := HT3.out
                  generalize hz : N - k = z at this
                  cases this with
                  | done _ => omega
                  | turn h1 _ => exact absurd hle h1)
                go_wp2_with fail
                go_ret
                rw [HNK.out]
                exact ⟨rfl, HB3.out⟩
              · have hgt : (xs.length : Int) - 1 - i < (ys.length : Int) := by omega
                have HNK : Hid (k < N ∧ Tn (xs.length - 1 - i.toNat) (sv ys (e + 64)).2.1 (sv ys (e + 64)).2.2 (N - (k + 1))) := Lib.hid (by
                  have := HT3.out
                  generalize hz : N - k = z at this
                  cases this with
                  | done h1 => exact absurd h1 hle
                  | @turn _ _ n _ h2 =>
                    have e0 : N - (k + 1) = n := by omega
                    exact ⟨by omega, by rw [e0]; exact h2⟩)
                go_wp2_with fail
                refine (refServe_any HQ3.out he0 he1 (by omega) HF3.out).mono ?_
                rintro e1 w3 ⟨v1, v2, rfl, hb, hv1, hv2⟩
                have HQ4 := Lib.hid hv2
                have HB4 := Lib.hid (below_then HB3.out hb)
                have hkN2 := HNK.out.1
                have HV := Lib.hid (sv_left (xs := ys) (d := e + 64) HF3.out (by omega))
                have hsl := sv_len ys (e + 64)
                clear hv1 hv2 hb HQ3 HB3
                go_wp2_with fail
                exact ⟨⟨k + 1, _, _, rfl, by simp, HV.out.1, HV.out.2, by omega, HNK.out.2, HF3.out.rest _, by omega, HQ4.out, HB4.out⟩, by simp [intOf]; omega⟩
          · have HN0 : Hid (N = 0) := Lib.hid (HT.out.no (fun h => h8 h.2.2.2.2.1))
            go_enter Try.func33, Try.ntmps33
            go_wp2_with fail
            go_ret
            rw [HN0.out]
            exact ⟨rfl, Below.refl _ _⟩
        · have HN0 : Hid (N = 0) := Lib.hid (HT.out.no (fun h => hd1 h.2.2.2.1))
          go_enter Try.func33, Try.ntmps33
          go_wp2_with fail
          go_ret
          rw [HN0.out]
          exact ⟨rfl, Below.refl _ _⟩
      · have HN0 : Hid (N = 0) := Lib.hid (HT.out.no (fun h => hd0 h.2.2.1))
        go_enter Try.func33, Try.ntmps33
        go_wp2_with fail
        go_ret
        rw [HN0.out]
        exact ⟨rfl, Below.refl _ _⟩
    · have HN0 : Hid (N = 0) := Lib.hid (HT.out.no (fun h => hi1 h.2.1))
      go_enter Try.func33, Try.ntmps33
      go_wp2_with fail
      go_ret
      rw [HN0.out]
      exact ⟨rfl, Below.refl _ _⟩
  · have HN0 : Hid (N = 0) := Lib.hid (HT.out.no (fun h => hi0 h.1))
    go_enter Try.func33, Try.ntmps33
    go_wp2_with fail
    go_ret
    rw [HN0.out]
    exact ⟨rfl, Below.refl _ _⟩
end Go.Proofs.Ythligipgmicgfaa
