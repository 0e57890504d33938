/- tocsinref21.Serve -/
import Derived.Test.YthligipgmicgfaaDrr
namespace Go.Proofs.Ythligipgmicgfaa
open Go.RowKit
attribute [local go_sem] Oper.semAt_some

theorem IA.take {S : Nat → Prop} {W : World} {a : Addr} {xs : List It} {rs : List (Value × It)} (h : IA S W a xs rs) (n : Nat) : IA S W a (xs.take n) (rs.take n) := by
  refine ⟨by rw [List.map_take, h.map], fun hp => h.blk (by rw [List.length_take] at hp; omega), fun i x hx j u hu => ?_, fun r hr => h.lab r (List.mem_of_mem_take hr)⟩
  rw [List.getElem?_take] at hx
  split at hx
  · exact h.row i x hx j u hu
  · cases hx
theorem IA.drop {S : Nat → Prop} {W : World} {a : Addr} {xs : List It} {rs : List (Value × It)} (h : IA S W a xs rs) (n : Nat) : IA S W (a.add (n * 4)) (xs.drop n) (rs.drop n) := by
  refine ⟨by rw [List.map_drop, h.map], fun hp => by rw [add_block']; exact h.blk (by rw [List.length_drop] at hp; omega), fun i x hx j u hu => ?_, fun r hr => h.lab r (List.mem_of_mem_drop hr)⟩
  rw [List.getElem?_drop] at hx
  have := h.row (n + i) x hx j u hu
  rw [Addr.add_add] at this ⊢
  rw [Addr.add_add, show n * 4 + (i * 4 + j) = (n + i) * 4 + j from by omega]
  exact this
theorem its_take {S : Nat → Prop} {W : World} {p : Option Addr} {n c : Nat} {xs : List It} {k : Nat} (h : Its S W (.slice p n c) xs) (hk : k ≤ xs.length) : Its S W (.slice p k c) (xs.take k) := by
  have hl : (xs.take k).length = k := by rw [List.length_take]; omega
  rcases h with ⟨h, rfl⟩ | ⟨a', cap, rs, h, h1, h2, h3⟩
  · simp only [Value.slice.injEq] at h
    obtain ⟨rfl, rfl, rfl⟩ := h
    obtain rfl : k = 0 := by simpa using hk
    exact .inl ⟨rfl, rfl⟩
  · simp only [Value.slice.injEq] at h
    obtain ⟨rfl, rfl, rfl⟩ := h
    exact .inr ⟨a', c, rs.take k, by rw [hl], by omega, h2, h3.take k⟩
theorem its_drop {S : Nat → Prop} {W : World} {a : Addr} {n c : Nat} {xs : List It} {k : Nat} (h : Its S W (.slice (some a) n c) xs) (hk : k ≤ xs.length) : (c = k → Its S W (.slice (some a) 0 0) (xs.drop k)) ∧ Its S W (.slice (some (a.add (k * 4))) (xs.length - k) (c - k)) (xs.drop k) := by
  have hl : (xs.drop k).length = xs.length - k := by rw [List.length_drop]
  rcases h with ⟨h, _⟩ | ⟨a', cap, rs, h, h1, h2, h3⟩
  · cases h
  · simp only [Value.slice.injEq, Option.some.injEq] at h
    obtain ⟨rfl, rfl, rfl⟩ := h
    refine ⟨fun e => ?_, .inr ⟨_, _, rs.drop k, by rw [hl], by omega, by omega, h3.drop k⟩⟩
    have e0 : xs.drop k = [] := List.eq_nil_of_length_eq_zero (by omega)
    rw [e0]
    exact .inr ⟨a, 0, [], rfl, by simp, by simp, rfl, fun hp => by simp at hp, fun i x hx => by simp at hx, fun r hr => by cases hr⟩
theorem Its.cap {S : Nat → Prop} {W : World} {p : Option Addr} {n c : Nat} {xs : List It} (h : Its S W (.slice p n c) xs) : xs.length ≤ c := by
  rcases h with ⟨h, rfl⟩ | ⟨a', cap, rs, h, h1, h2, h3⟩
  · simp
  · simp only [Value.slice.injEq] at h
    omega
theorem Its.nope {S : Nat → Prop} {W : World} {n c : Nat} {xs : List It} (h : Its S W (.slice none n c) xs) : c = 0 ∧ xs = [] := by
  rcases h with ⟨h, rfl⟩ | ⟨a', cap, rs, h, h1, h2, h3⟩
  · simp only [Value.slice.injEq] at h
    exact ⟨h.2.2, rfl⟩
  · simp only [Value.slice.injEq] at h
    cases h.1
theorem results_tmp4 {fn : Func} {t u v x : Tmp} (h : fn.results = #[.tmp t, .tmp u, .tmp v, .tmp x]) (tmps : Array Value) (P : Program) (w : World) :
    (results fn tmps).run P w = .ok (.tuple #[tmps.getD t undef, tmps.getD u undef, tmps.getD v undef, tmps.getD x undef]) w := by
  simp [results, h]
def RSrv (S : Nat → Prop) (xs : List It) (d : Int) (w : World) (e : Ending) (w' : World) : Prop := ∃ v1 v2, e = .returned (.tuple #[v1, v2, .int .i64 (sv xs (d + 64)).2.2, .int .i64 0]) ∧ Below w.heap.size w w' ∧ Its S w' v1 (sv xs (d + 64)).1 ∧ Its S w' v2 (sv xs (d + 64)).2.1
def RSrvNot (v : Value) (w : World) (e : Ending) (w' : World) : Prop := e = .returned (.tuple #[.slice none 0 0, v, .int .i64 0, .int .i64 2]) ∧ w = w'
theorem refServe_not {p : Option Addr} {n c : Nat} {w : World} {d : Int} (hd : ¬ (0 ≤ d ∧ d ≤ 256)) : Calls Try.prog 31 #[.slice p n c, .int .i64 d] w (RSrvNot (.slice p n c) w) := by
  by_cases h1 : d < 0
  · go_enter Try.func31, Try.ntmps31
    go_wp2_with fail
    refine bodyPost_ret (results_tmp4 rfl _ _ _) rfl ?_
    exact ⟨rfl, rfl⟩
  · have h2 : 256 < d := by omega
    go_enter Try.func31, Try.ntmps31
    go_wp2_with fail
    refine bodyPost_ret (results_tmp4 rfl _ _ _) rfl ?_
    exact ⟨rfl, rfl⟩
set_option maxRecDepth 100000 in
set_option maxHeartbeats 4000000 in
theorem refServe_any {S : Nat → Prop} {v : Value} {w : World} {xs : List It} {d : Int} (h : Its S w v xs) (hd0 : 0 ≤ d) (hd : d ≤ 256) (hn : xs.length ≤ 100000) (hc : ∀ x ∈ xs, 1 ≤ x.cost ∧ x.cost ≤ 256) : Calls Try.prog 31 #[v, .int .i64 d] w (RSrv S xs d w) := by
  obtain ⟨p, c, rfl⟩ := h.slice
  have HK := Lib.hid h
  have HC := Lib.hid hc
  clear h hc
  go_enter Try.func31, Try.ntmps31
  go_wp2_with fail
  go_loopw [1, 8] (fun ds i wr => ∃ (k : Nat) (e : Int), ds = .int .i64 e ∧ i = .int .i64 k ∧ k ≤ xs.length ∧ 0 ≤ e ∧ e ≤ 320 ∧ sv xs (d + 64) = (xs.take k ++ (sv (xs.drop k) e).1, (sv (xs.drop k) e).2.1, (sv (xs.drop k) e).2.2) ∧ wr = w) (fun _ i _ => xs.length - (intOf i).toNat)
  · exact ⟨0, d + 64, rfl, rfl, by omega, by omega, by omega, rfl, rfl⟩
  obtain ⟨k, e, rfl, rfl, hk, he0, he1, hsv, rfl⟩ := hrel
  have HSV := Lib.hid hsv
  clear hsv
  by_cases hlt : k < xs.length
  · obtain ⟨x, hx⟩ : ∃ x, xs[k]? = some x := ⟨_, List.getElem?_eq_getElem hlt⟩
    obtain ⟨a, lv, rfl, hl, x0, x1, x2, x3⟩ := HK.out.at hx
    have hcx := HC.out x (List.mem_of_getElem? hx)
    have hc1 := hcx.1
    have hc2 := hcx.2
    have HD : Hid (xs.drop k = x :: xs.drop (k + 1)) := Lib.hid (List.drop_eq_getElem?_toList_append.trans (by rw [hx]; rfl))
    have HTS := Lib.hid (take_snoc hx)
    have hkk : (k : Int) < (xs.length : Int) := by omega
    clear hx hl hcx
    by_cases hle : x.cost ≤ e
    · have HLE := Lib.hid hle
      go_wp2_with fail
      refine ⟨⟨k + 1, e - x.cost, rfl, by simp, by omega, by omega, by omega, ?_, trivial⟩, by simp [intOf]; omega⟩
      have e0 := HSV.out
      rw [HD.out, sv_yes HLE.out] at e0
      rw [e0, HTS.out]
      simp
    · have HLE := Lib.hid hle
      have hne : ¬ k = xs.length := by omega
      have hne2 : ¬ (k : Int) = (xs.length : Int) := by omega
      obtain ⟨t1, t2⟩ := its_drop HK.out hk
      have T0 := Lib.hid (its_take HK.out hk)
      have T2 := Lib.hid t2
      have hkc : k < c := by have := HK.out.cap; omega
      have hkc2 : ¬ c = k := by omega
      have hkc3 : ¬ c - k = 0 := by omega
      clear t1 t2
      go_wp2_with fail
      go_region
      go_wp2_with fail
      refine bodyPost_ret (results_tmp4 rfl _ _ _) rfl ?_
      have hb : Below wr.heap.size wr wr.drew := (Below.refl _ wr).drew
      have e0 := HSV.out
      rw [HD.out, sv_no (x := x) (d := e) (by have := HLE.out; omega), List.append_nil] at e0
      refine ⟨_, _, by rw [e0]; rfl, hb, ?_, ?_⟩
      · rw [e0]; exact T0.out.below hb
      · rw [e0]
        have := T2.out.below hb
        rw [HD.out] at this
        exact this
  · obtain rfl : k = xs.length := by omega
    by_cases hp : p = none
    · subst hp
      obtain ⟨h0, rfl⟩ : c = 0 ∧ xs = [] := HK.out.nope
      subst h0
      go_wp2_with fail
      go_region
      go_wp2_with fail
      refine bodyPost_ret (results_tmp4 rfl _ _ _) rfl ?_
      have hb : Below wr.heap.size wr wr.drew := (Below.refl _ wr).drew
      have e0 : sv [] (d + 64) = ([], [], 0) := rfl
      refine ⟨_, _, by rw [e0]; rfl, hb, ?_, ?_⟩
      · rw [e0]; exact Its.nil _ _
      · rw [e0]; exact Its.nil _ _
    · obtain ⟨a, rfl⟩ := Option.ne_none_iff_exists'.1 hp
      obtain ⟨t1, t2⟩ := its_drop HK.out hk
      have T0 := Lib.hid (its_take HK.out hk)
      have T1 := Lib.hid t1
      have T2 := Lib.hid t2
      have hkc : xs.length ≤ c := HK.out.cap
      clear t1 t2 hp
      by_cases hkc2 : c = xs.length
      · have HC2 := Lib.hid hkc2
        have hkc3 : c - xs.length = 0 := by omega
        go_wp2_with fail
        go_region
        go_wp2_with fail
        refine bodyPost_ret (results_tmp4 rfl _ _ _) rfl ?_
        have hb : Below wr.heap.size wr wr.drew := (Below.refl _ wr).drew
        have e0 := HSV.out
        rw [List.drop_length, sv_nil, List.append_nil] at e0
        refine ⟨_, _, by rw [e0]; rfl, hb, ?_, ?_⟩
        · rw [e0]
          have := T0.out.below hb
          rw [HC2.out] at this
          exact this
        · rw [e0]
          have := (T1.out HC2.out).below hb
          rw [List.drop_length] at this
          exact this
      · have hkc3 : ¬ c - xs.length = 0 := by omega
        go_wp2_with fail
        go_region
        go_wp2_with fail
        refine bodyPost_ret (results_tmp4 rfl _ _ _) rfl ?_
        have hb : Below wr.heap.size wr wr.drew := (Below.refl _ wr).drew
        have e0 := HSV.out
        rw [List.drop_length, sv_nil, List.append_nil] at e0
        refine ⟨_, _, by rw [e0]; rfl, hb, ?_, ?_⟩
        · rw [e0]; exact T0.out.below hb
        · rw [e0]
          have := T2.out.below hb
          rw [List.drop_length, Nat.sub_self] at this
          exact this
end Go.Proofs.Ythligipgmicgfaa
