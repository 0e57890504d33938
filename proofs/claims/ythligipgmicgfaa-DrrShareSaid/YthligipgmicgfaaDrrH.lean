/- DrrShare's walk -/
import Derived.Test.YthligipgmicgfaaDrrA
namespace Go.Proofs.Ythligipgmicgfaa
open Go.RowKit
attribute [local go_sem] Oper.semAt_some

/-- so much was served in t turns, so much waits, so much is left -/
structure SH (d0 : Int) (t : Nat) (served : Int) (rest : List It) (d : Int) : Prop where
  f : Fair rest
  n : rest.length ≤ 8
  dlo : 0 ≤ d
  dhi : d ≤ 256
  s0 : 0 ≤ served
  le : served ≤ d0 + 64 * t
  eq : rest ≠ [] → served + d = d0 + 64 * t
  lt : ∀ x ys, rest = x :: ys → t = 0 ∨ d < x.cost
theorem SH.next {d0 served d : Int} {t : Nat} {rest : List It} (h : SH d0 t served rest d) : SH d0 (t + 1) (served + costs (sv rest (d + 64)).1) (sv rest (d + 64)).2.1 (sv rest (d + 64)).2.2 := by
  have hd := h.dlo
  have hv := sv_left (xs := rest) (d := d + 64) h.f (by omega)
  have hl := sv_len rest (d + 64)
  have hc := costs_le (h.f.out (d + 64))
  have hn := h.n
  have hs := h.s0
  have hle := h.le
  have hne : (sv rest (d + 64)).2.1 ≠ [] → rest ≠ [] := fun h1 e => by rw [e] at h1; exact h1 rfl
  rcases sv_what (xs := rest) (d := d + 64) (by omega) with ⟨k1, k2, k3⟩ | ⟨x, ys, k1, k2, k3, k4⟩
  · refine ⟨h.f.rest _, by omega, hv.1, hv.2, by omega, ?_, fun h1 => absurd k1 h1, fun x ys e => by rw [k1] at e; cases e⟩
    by_cases hr : rest = []
    · subst hr
      have : costs (sv [] (d + 64)).1 = 0 := rfl
      omega
    · have := h.eq hr
      omega
  · have hr : rest ≠ [] := hne (by rw [k1]; simp)
    have h1 := h.eq hr
    refine ⟨h.f.rest _, by omega, hv.1, hv.2, by omega, by omega, fun _ => by omega, fun x' ys' e => .inr ?_⟩
    rw [k1] at e
    cases e
    exact k3
theorem costs_take {xs : List It} {k : Nat} {x : It} (hx : xs[k]? = some x) : costs (xs.take (k + 1)) = costs (xs.take k) + x.cost := by rw [take_snoc hx, costs_snoc]
set_option maxRecDepth 100000 in
set_option maxHeartbeats 8000000 in
theorem share_some (zs : List Int) (dn tn : Int) (p : Option Addr) (cap : Nat) (w : World) (hM : Sl (fun _ => True) w (.slice p zs.length cap) 1 encN zs) (hlen : zs.length ≤ 8) :
    Calls Try.prog 7 #[.slice p zs.length cap, .int .i64 dn, .int .i64 tn] w (Tells (.bool true) w) := by
  have HM := Lib.hid hM
  clear hM
  go_enter Try.func7, Try.ntmps7
  go_wp2_with fail
  refine (new_any w).mono ?_
  rintro e w1 ⟨rfl, hb, hq⟩
  have HQ1 := Lib.hid hq
  have HB1 := Lib.hid hb
  clear hb hq
  obtain ⟨q, hq0⟩ : ∃ q, q = w.heap.size := ⟨_, rfl⟩
  rw [← hq0] at HQ1 ⊢
  have hwq : w.heap.size ≤ q := by omega
  clear hq0
  obtain ⟨d0, hd1, hd2⟩ := mod_u64 dn 257 (by omega) (by omega)
  obtain ⟨tt, ht1, ht2⟩ := mod_u64 tn 41 (by omega) (by omega)
  simp only [Int.cast_ofNat_Int] at hd1 ht1
  rw [hd1, ht1]
  clear hd1 ht1
  have hd2' : (d0 : Int) < 257 := by omega
  have ht2' : (tt : Int) < 41 := by omega
  go_wp2_with fail
  go_loopw [8] (fun j wr => ∃ (k : Nat) (ys : List It), j = .int .i64 k ∧ k ≤ zs.length ∧ ys.length = k ∧ Fair ys ∧ QAt (fun b => b ≠ q) q wr ys ∧ Below w.heap.size w wr) (fun j _ => zs.length - (intOf j).toNat)
  · exact ⟨0, [], rfl, by omega, rfl, (fun x hx => by cases hx), HQ1.out, HB1.out⟩
  obtain ⟨k, ys, rfl, hk, hyl, hf, hq, hb⟩ := hrel
  have HQ2 := Lib.hid hq
  have HB2 := Lib.hid hb
  have HF := Lib.hid hf
  clear hq hb hf HQ1 HB1
  have hql := HQ2.out.lt
  by_cases hlt : k < zs.length
  · obtain ⟨z, hz⟩ : ∃ z, zs[k]? = some z := ⟨_, List.getElem?_eq_getElem hlt⟩
    obtain ⟨a, rfl, hab, _, hM⟩ := (HM.out.below HB2.out).at hz
    have hz0 := hM k z hz 0 _ rfl
    clear hM
    rw [Nat.mul_one, Addr.add_zero'] at hz0
    obtain ⟨c, hc1, hc2⟩ := mod_u64 z 256 (by omega) (by omega)
    simp only [Int.cast_ofNat_Int] at hc1
    have HC1 := Lib.hid hc1
    clear hc1 hz
    have hkk : (k : Int) < (zs.length : Int) := by omega
    have hc0 : (0 : Int) ≤ c := by omega
    have hc256 : (c : Int) < 256 := by omega
    go_wp2_with fail
    rw [HC1.out, show wrap64 (1 + (c : Int)) = 1 + (c : Int) from IntWalk.wrap64_in _ ⟨by omega, by omega⟩]
    refine (push_yes HQ2.out (fun b hb => by omega) (by omega) (by omega) (by omega)).mono ?_
    rintro e w2 ⟨rfl, hq, hkp⟩
    have HQ3 := Lib.hid hq
    have HB3 := Lib.hid (HB2.out.trans (hkp.below (fun b e => by omega) HB2.out.size))
    clear hq hkp HQ2 HB2 hz0
    go_wp2_with fail
    refine ⟨⟨k + 1, _, by simp, by omega, by simp; exact hyl, ?_, HQ3.out, HB3.out⟩, by simp [intOf]; omega⟩
    intro y hy
    rcases List.mem_append.1 hy with hy | hy
    · exact HF.out y hy
    · obtain rfl := List.mem_singleton.1 hy
      exact ⟨by show 1 ≤ 1 + (c : Int); omega, by show 1 + (c : Int) ≤ 256; omega⟩
  · obtain rfl : k = zs.length := by omega
    clear HM
    go_wp2_with fail
    go_loopw [9, 10, 11] (fun sv_ dv tv wr => ∃ (t : Nat) (served d : Int) (rest : List It), sv_ = .int .i64 served ∧ dv = .int .i64 d ∧ tv = .int .i64 t ∧ t ≤ tt ∧ SH d0 t served rest d ∧ QAt (fun b => b ≠ q) q wr rest ∧ Below w.heap.size w wr) (fun _ _ tv _ => tt - (intOf tv).toNat)
    · exact ⟨0, 0, d0, ys, rfl, rfl, rfl, by omega, ⟨HF.out, by omega, by omega, by omega, by omega, by omega, fun _ => by omega, fun _ _ _ => .inl rfl⟩, HQ2.out, HB2.out⟩
    obtain ⟨t, served, d, rest, rfl, rfl, rfl, htt, hS, hq, hb⟩ := hrel
    have HQ3 := Lib.hid hq
    have HB3 := Lib.hid hb
    have HS := Lib.hid hS
    have hle := hS.le
    have hs0 := hS.s0
    have hdd0 := hS.dlo
    have hdd1 := hS.dhi
    have hrn := hS.n
    have hql := hq.lt
    clear hq hb hS HQ2 HB2 HF
    by_cases htl : t < tt
    · have htl' : (t : Int) < (tt : Int) := by omega
      go_wp2_with fail
      refine (drrServe_any HQ3.out hdd0 hdd1 (by omega) HS.out.f).mono ?_
      rintro e w2 ⟨v1, rs, rfl, hr, hq, hkp⟩
      have HS2 := Lib.hid HS.out.next
      have hol := sv_len rest (d + 64)
      have HFO := Lib.hid (HS.out.f.out (d + 64))
      have HI := Lib.hid hr.all
      have HQ4 := Lib.hid hq
      have HB4 := Lib.hid (HB3.out.trans (hkp.below (fun b e => by omega) HB3.out.size))
      clear hr hq hkp HQ3 HB3
      generalize hgo : (sv rest (d + 64)).1 = out at *
      generalize hgl : (sv rest (d + 64)).2.2 = left at *
      generalize hgr : (sv rest (d + 64)).2.1 = rest2 at *
      have hle2 := HS2.out.le
      clear hgo hgl hgr
      obtain ⟨p1, c1, rfl⟩ := HI.out.slice
      go_wp2_with fail
      go_loop [9, 15] (fun s i => ∃ k : Nat, s = .int .i64 (served + costs (out.take k)) ∧ i = .int .i64 k ∧ k ≤ out.length) (fun _ i => out.length - (intOf i).toNat)
      · exact ⟨0, by simp [costs], rfl, by omega⟩
      obtain ⟨k, rfl, rfl, hk⟩ := hrel
      by_cases hlt2 : k < out.length
      · obtain ⟨x, hx⟩ : ∃ x, out[k]? = some x := ⟨_, List.getElem?_eq_getElem hlt2⟩
        obtain ⟨a, lv, rfl, hl, x0, x1, x2, x3⟩ := HI.out.at hx
        have hkk : (k : Int) < (out.length : Int) := by omega
        have hcx := HFO.out x (List.mem_of_getElem? hx)
        have hc1 := hcx.1
        have hc2 := hcx.2
        have HCT := Lib.hid (costs_take hx)
        have hcl := costs_le (xs := out.take k) (fun y hy => HFO.out y (List.mem_of_mem_take hy))
        rw [List.length_take] at hcl
        have hcl1 := hcl.1
        have hcl2 : costs (out.take k) ≤ 2048 := by omega
        generalize hgc : costs (out.take k) = ck at *
        clear hcl hcx hx hl hgc
        go_wp2_with fail
        exact ⟨⟨k + 1, by rw [HCT.out, Int.add_assoc], by simp, by omega⟩, by simp [intOf]; omega⟩
      · obtain rfl : k = out.length := by omega
        rw [List.take_length]
        go_wp2_with fail
        exact ⟨⟨t + 1, _, _, _, rfl, rfl, by simp, by omega, HS2.out, HQ4.out, HB4.out⟩, by simp [intOf]; omega⟩
    · obtain rfl : t = tt := by omega
      cases rest with
      | nil =>
        go_wp2_with fail
        refine (first_none (len_any (HQ3.out.below ((Below.refl _ _).alloc (Nat.le_refl _) _)))).mono ?_
        rintro e1 w2 ⟨rfl, hb⟩
        have HB4 := Lib.hid (below_then HB3.out hb)
        clear hb HB3
        go_wp2_with fail
        refine (awake21_any _).mono ?_
        rintro e w3 ⟨rfl, hb⟩
        have HB5 := Lib.hid (below_then (HB4.out.alloc HB4.out.size _) hb)
        go_wp2_with fail
        go_ret
        exact ⟨rfl, HB5.out⟩
      | cons x rest =>
        go_wp2_with fail
        refine (first_some HQ3.out).mono ?_
        rintro e1 w2 ⟨l1, rfl, hl1, hb⟩
        have HB4 := Lib.hid (below_then HB3.out hb)
        clear hb HB3
        obtain ⟨p1, q1, rfl⟩ := hl1.lb.slice
        have heq := HS.out.eq (by simp)
        have hxx := HS.out.f x (by simp)
        have hx1 := hxx.1
        have hx2 := hxx.2
        have HLT := Lib.hid (HS.out.lt x rest rfl)
        clear hxx
        by_cases ht0 : t = 0
        · subst ht0
          go_wp2_with fail
          refine (awake21_any _).mono ?_
          rintro e w3 ⟨rfl, hb⟩
          have HB5 := Lib.hid (below_then (HB4.out.alloc HB4.out.size _) hb)
          go_wp2_with fail
          go_ret
          exact ⟨rfl, HB5.out⟩
        · have hlt2 : d < x.cost := by rcases HLT.out with h | h; exact absurd h ht0; exact h
          go_wp2_with fail
          refine (awake21_any _).mono ?_
          rintro e w3 ⟨rfl, hb⟩
          have HB5 := Lib.hid (below_then (HB4.out.alloc HB4.out.size _) hb)
          go_wp2_with fail
          go_ret
          exact ⟨rfl, HB5.out⟩
set_option maxRecDepth 100000 in
theorem share_any {zs : List Int} {v : Value} {w : World} {dn tn : Int} (h : Sl (fun _ => True) w v 1 encN zs) (_ : ∀ x ∈ zs, (Lit.int .i64 x).wf = true) (_ : (Lit.int .i64 dn).wf = true) (_ : (Lit.int .i64 tn).wf = true) : Calls Try.prog 7 #[v, .int .i64 dn, .int .i64 tn] w (Tells (.bool true) w) := by
  obtain ⟨p, cap, rfl, _, _⟩ := h.len
  by_cases hlen : zs.length ≤ 8
  · exact share_some zs dn tn p cap w h hlen
  · have hb : (8 : Int) < zs.length := by omega
    clear h
    go_enter Try.func7, Try.ntmps7
    go_wp2_with fail
    go_ret
    exact ⟨rfl, Below.refl _ _⟩
end Go.Proofs.Ythligipgmicgfaa
