/- slices.Delete of one that is owed. (Printed by tools/outtak.py out of XNTak.) -/
import Derived.Test.YtfaafndaelmbfaaOPl
import Derived.Laws.OwnMore
namespace Go.Proofs.Ytfaafndaelmbfaa
open Go.RowKit Go.Builtin
attribute [local go_sem] Oper.semAt_some

section
variable {P : Program} {α : Type} {W : World} {base : Nat} {e : TypeId} {size : Nat} {enc : α → List Value} {g n cap : Nat}
/-- the head of a row that is owned -/
theorem owns_head (he : ∀ x, (enc x).length = size) {rs : List α} (h : W.ownsRow base e size (.slice (some ⟨g, 0, none⟩) rs.length cap) rs.length (rs.flatMap enc)) {i : Nat} (hi : i ≤ rs.length) : W.ownsRow base e size (.slice (some ⟨g, 0, none⟩) i cap) i ((rs.take i).flatMap enc) := by
  have hl : (rs.take i).length = i := by rw [List.length_take]; omega
  rcases h.2 with ⟨h', _⟩ | ⟨g', cap', cur, h', hb, hg, hnc, hcm, hcs, htake⟩
  · cases h'
  · simp only [Value.slice.injEq, Option.some.injEq, Addr.mk.injEq, and_true, true_and] at h'
    obtain ⟨rfl, rfl⟩ := h'
    refine ⟨by rw [flat_length he, hl], .inr ⟨g, cap, cur, rfl, hb, hg, by omega, hcm, hcs, ?_⟩⟩
    have h1 : rs.flatMap enc = (rs.take i).flatMap enc ++ (rs.drop i).flatMap enc := by rw [← List.flatMap_append, List.take_append_drop]
    have h2 : ((rs.take i).flatMap enc).length = i * size := by rw [flat_length he, hl]
    have h3 : cur.toList.take (i * size) = (cur.toList.take (rs.length * size)).take (i * size) := by
      rw [List.take_take, Nat.min_eq_left (Nat.mul_le_mul_right _ hi)]
    rw [h3, htake, h1, ← h2, List.take_left]
/-- append into the room of a row that is owned -/
theorem wp_append_fit {o : Oper} {a : Act} {K : Act → World → Prop} {Q : Exit → Act → World → Prop} (so xo : Operand) (t : TypeId)
    (ho : o.op = .call { callee := .builtin .append, args := #[so, xo], argTypes := #[t, t] }) (i : TypeInfo) (ht : P.underlying t = some (.slice e)) (hi : P.info? e = some i) (hsize : i.size = size)
    {xs : List Value} {ad : Addr} {m c : Nat} {news : List Value} (hv : a.eval so = .slice (some ⟨g, 0, none⟩) n cap) (hs : a.eval xo = .slice (some ad) m c) (hown : W.ownsRow base e size (.slice (some ⟨g, 0, none⟩) n cap) n xs)
    (hl : news.length = m * size) (hnews : ∀ j u, news[j]? = some u → W.cell? (ad.add j) = some u) (h1 : ∀ u ∈ news, u.oneCell' = true) (hroom : n + m ≤ cap)
    (h : ∀ w', w'.ownsRow base e size (.slice (some ⟨g, 0, none⟩) (n + m) cap) (n + m) (xs ++ news) → Kept (fun b => b = g) W w' → K (a.put o.dst (.slice (some ⟨g, 0, none⟩) (n + m) cap)) w') : o.wp P a W K Q := by
  obtain ⟨w', hr, h2, h3⟩ := run_append_fits (P := P) W base t o.type e i size ht hi hsize g n cap xs hown ad m c news hl hnews h1 hroom
  unfold Oper.wp execOp
  simp only [ho, resolve, invoke, builtin, Sem.run_bind, Sem.run_pure, Result.andThen_ok, List.map_toArray, List.map_cons, List.map_nil, hv, hs, hr]
  exact h w' h2 ⟨h3.os, h3.tape, h3.output, h3.size, fun k hk hf => h3.block k hk (fun e => hf (by cases e; rfl))⟩
/-- clear behind a row that is owned -/
theorem run_clear_one {t : TypeId} {i : TypeInfo} {z : Value} {cs : List Value} {xs : List Value} (ht : P.underlying t = some (.slice e)) (hi : P.info? e = some i) (hz : i.zero = some z) (hzc : (zeroCells z.cells 1).toList = cs) (hcl : cs.length = size) (h1 : ∀ u ∈ cs, u.oneCell' = true)
    (hown : W.ownsRow base e size (.slice (some ⟨g, 0, none⟩) n cap) n xs) (hn : n + 1 ≤ cap) (c : Nat) :
    ∃ W', (∀ ty, (Builtin.clear_ #[t] ty #[.slice (some ⟨g, n * size, none⟩) 1 c]).run P W = .ok (.tuple #[]) W') ∧ W'.ownsRow base e size (.slice (some ⟨g, 0, none⟩) n cap) n xs ∧ Kept (fun b => b = g) W W' := by
  rcases hown.2 with ⟨h', _⟩ | ⟨g', cap', cur, h', hb, hg, hnc, hcm, hcs, htake⟩
  · cases h'
  · simp only [Value.slice.injEq, Option.some.injEq, Addr.mk.injEq, and_true, true_and] at h'
    obtain ⟨rfl, rfl⟩ := h'
    have hfit : n * size + 0 + cs.length ≤ cur.size := by
      rw [hcs, hcl, Nat.add_zero, ← Nat.succ_mul]; exact Nat.mul_le_mul_right _ hn
    have hst := run_storeCells_at P g (n * size) e cs 0 cur W hg hfit h1
    rw [Nat.add_zero] at hst hfit
    have hl : (cur.toList.take (n * size)).length = n * size := by rw [List.length_take, Array.length_toList]; omega
    obtain ⟨A, hA⟩ : ∃ A, A = (cur.toList.take (n * size) ++ cs ++ cur.toList.drop (n * size + cs.length)).toArray := ⟨_, rfl⟩
    rw [← hA] at hst
    have hAs : A.size = cur.size := by
      have hc2 : cur.toList.length = cur.size := Array.length_toList
      rw [hA, List.size_toArray, List.length_append, List.length_append, hl, List.length_drop, hc2]
      omega
    have hAt : A.toList.take (n * size) = xs := by
      rw [hA, List.append_assoc, ← htake]
      show (cur.toList.take (n * size) ++ (cs ++ cur.toList.drop (n * size + cs.length))).take (n * size) = _
      exact List.take_left' hl
    refine ⟨W.setRow g A, fun ty => ?_, ⟨hown.1, .inr ⟨g, cap, A, rfl, hb, setRow_heap W g cur A e (0, 0) hg, hnc, hcm, by rw [hAs, hcs], hAt⟩⟩, ⟨rfl, rfl, rfl, by simp [World.setRow], fun k hk hf => setRow_other W g k _ (fun e => hf e)⟩⟩
    have hv : (zeroValue e).run P W = .ok z W := by simp [zeroValue, typeInfo, hi, hz]
    simp [Builtin.clear_, run_underlying ht, hv, hzc, hst]
end
abbrev zo : Array Value := #[.int .u32 0, .string ⟨#[]⟩, .int .i64 0, .slice none 0 0, .slice none 0 0, .int .i64 0, .int .i64 0]
theorem info_owed : (Try.prog.info? 36).map (fun i => (i.zero, i.size, i.bytes)) = some (some (.agg zo), 7, 96) := by kernel_rfl
def DelTo (base g cap : Nat) (rs : List Ow) (k : Nat) (w : World) (e : Ending) (w' : World) : Prop :=
  e = .returned (.slice (some ⟨g, 0, none⟩) (rs.length - 1) cap) ∧ w'.ownsRow base 36 7 (.slice (some ⟨g, 0, none⟩) (rs.eraseIdx k).length cap) (rs.eraseIdx k).length ((rs.eraseIdx k).flatMap encO) ∧ Kept (fun b => b = g) w w'
set_option maxRecDepth 100000 in
set_option maxHeartbeats 1000000 in
theorem del_any {base g cap k : Nat} {rs : List Ow} {w : World} (h : w.ownsRow base 36 7 (.slice (some ⟨g, 0, none⟩) rs.length cap) rs.length (rs.flatMap encO)) (hm : ∀ r ∈ rs, ∀ u ∈ encO r, u.oneCell' = true) (hk : k < rs.length) (hn : rs.length ≤ 100000) :
    Calls Try.prog 30 #[.slice (some ⟨g, 0, none⟩) rs.length cap, .int .i64 k, .int .i64 ((k : Int) + 1)] w (DelTo base g cap rs k w) := by
  obtain ⟨i0, hi, hi0, hi1, hi2⟩ := info_parts info_owed
  have HI := Lib.hid hi
  have HI0 := Lib.hid hi0
  have HI1 := Lib.hid hi1
  obtain ⟨_, hcap, hcm⟩ : True ∧ rs.length ≤ cap ∧ cap ≤ maxLen := by
    rcases h.2 with ⟨h', _⟩ | ⟨g', cap', cur, h', hb, hg, hnc, hcm, hcs, htake⟩
    · cases h'
    · simp only [Value.slice.injEq, Option.some.injEq, Addr.mk.injEq, and_true, true_and] at h'
      obtain ⟨rfl, rfl⟩ := h'
      exact ⟨trivial, hnc, hcm⟩
  unfold maxLen at hcm
  obtain ⟨N, hN⟩ : ∃ N, rs.length = N + 1 := ⟨rs.length - 1, by omega⟩
  have HO := Lib.hid h
  have HM := Lib.hid hm
  have HN := Lib.hid hN
  have hNl : (rs.eraseIdx k).length = N := by rw [List.length_eraseIdx_of_lt hk]; omega
  have HE : Hid (∀ w', w'.ownsRow base 36 7 (.slice (some ⟨g, 0, none⟩) N cap) N ((rs.eraseIdx k).flatMap encO) → Kept (fun b => b = g) w w' → DelTo base g cap rs k w (.returned (.slice (some ⟨g, 0, none⟩) N cap)) w') := Lib.hid fun w' h1 h2 => ⟨by rw [hN]; rfl, by rw [hNl]; exact h1, h2⟩
  obtain ⟨A, hA, hsrc⟩ : ∃ A : Addr, (if cap = k + 1 then (some ⟨g, 0, none⟩ : Option Addr) else some ⟨g, (k + 1) * 7, none⟩) = some A ∧ ∀ j u, ((rs.drop (k + 1)).flatMap encO)[j]? = some u → w.cell? (A.add j) = some u := by
    by_cases hc : cap = k + 1
    · refine ⟨⟨g, 0, none⟩, by rw [if_pos hc], fun j u hu => ?_⟩
      rw [List.drop_of_length_le (by omega)] at hu
      simp at hu
    · refine ⟨⟨g, (k + 1) * 7, none⟩, by rw [if_neg hc], fun j u hu => ?_⟩
      have h1 : rs.flatMap encO = (rs.take (k + 1)).flatMap encO ++ (rs.drop (k + 1)).flatMap encO := by rw [← List.flatMap_append, List.take_append_drop]
      have h2 : ((rs.take (k + 1)).flatMap encO).length = (k + 1) * 7 := by rw [flat_length encO_len, List.length_take]; congr 1; omega
      have h3 := h.cells rfl ((k + 1) * 7 + j) u (by rw [h1, List.getElem?_append_right (by omega), h2, show (k + 1) * 7 + j - (k + 1) * 7 = j from by omega]; exact hu)
      have h4 : (⟨g, 0, none⟩ : Addr).add ((k + 1) * 7 + j) = (⟨g, (k + 1) * 7, none⟩ : Addr).add j := by simp [Addr.add]
      rw [← h4]
      exact h3
  have HS := Lib.hid hsrc
  have HA := Lib.hid hA
  have hkk : (k : Int) < (N : Int) + 1 := by omega
  have hkc : (k : Int) + 1 ≤ (cap : Int) := by omega
  have hcc : (N : Int) + 1 ≤ (cap : Int) := by omega
  have hw : wrap64 ((k : Int) + 1) = (k : Int) + 1 := IntWalk.wrap64_in _ ⟨by omega, by omega⟩
  have hne : ((k : Int) == (k : Int) + 1) = false := by rw [beq_eq_false_iff_ne]; omega
  rw [hN] at hn hk hcap ⊢
  clear h hi hi0 hi1 hi2 hm hN hNl hsrc hA
  go_enter Try.func30, Try.ntmps30
  go_wp2_with fail
  refine wp_region_ordH [0, 1, 2, 3, 4, 5, 6, 7] (fun w' => Kept (fun b => b = g) w w') (by kernel_rfl) (by kernel_rfl) ?_
  have hb0 : Kept (fun b => b = g) w w.drew := (Kept.refl _ w).drew
  have k0 : (0 : Int) ≤ (k : Int) := by omega
  have k1 : (k : Int) ≤ (cap : Int) := by omega
  have k2 : (0 : Int) ≤ (k : Int) + 1 := by omega
  have k3 : (k : Int) + 1 ≤ (N : Int) + 1 := by omega
  iterate 6 ((first | (refine ordH_free (v := ?_) rfl (by kernel_rfl) (fun _ _ _ h => h) (Or.inl ⟨rfl, fun w' hS => ?_⟩) hb0 ?_; rotate_left; (skip; go_simp <;> with_reducible rfl)) | (refine ordH_free (v := undef) rfl (by kernel_rfl) (fun _ _ _ h => h) (Or.inr ⟨rfl, rfl⟩) hb0 ?_)); (simp only [Act.put, List.setIfInBounds_toArray, List.set_cons_zero, List.set_cons_succ]))
  refine ordH_sole rfl (by kernel_rfl) rfl (fun K hK => ?_)
  try rw [HA.out]
  have hkN : k + (N - k) = N := by omega
  refine wp_append_fit (g := g) (n := k) (cap := cap) (base := base) (ad := A) (m := N - k) (c := cap - (k + 1)) (.tmp 22) (.tmp 25) 33 rfl i0 Try.underlying33 HI.out HI1.out (by rfl) (by rfl) (owns_keep (owns_head encO_len HO.out (by have := HN.out; omega)) (fun _ _ => rfl)) (by rw [flat_length encO_len, List.length_drop, HN.out]; congr 1; omega) (fun j u hu => HS.out j u hu) (fun u hu => by
    obtain ⟨r, hr, hu⟩ := List.mem_flatMap.1 hu
    exact HM.out r (List.mem_of_mem_drop hr) u hu) (by omega) ?_
  intro w1 hown hk1
  rw [hkN] at hown ⊢
  rw [← List.flatMap_append, ← List.eraseIdx_eq_take_drop_succ] at hown
  replace hk1 : Kept (fun b => b = g) w w1 := hb0.trans hk1 (fun _ _ e => e) (fun _ _ e => e)
  refine hK _ _ hk1 ?_
  clear hK K
  simp only [Act.put, List.setIfInBounds_toArray, List.set_cons_zero, List.set_cons_succ]
  (refine ordH_free (v := ?_) rfl (by kernel_rfl) (fun _ _ _ h => h) (Or.inl ⟨rfl, fun w' hS => ?_⟩) hk1 ?_; rotate_left; (go_simp <;> with_reducible rfl)); (simp only [Act.put, List.setIfInBounds_toArray, List.set_cons_zero])
  refine ⟨by kernel_rfl, ?_⟩
  obtain ⟨w2, hcl, hown2, hk2⟩ := run_clear_one (t := 33) (P := Try.prog) Try.underlying33 HI.out HI0.out (cs := zo.toList) (by kernel_rfl) (by rfl) (by simp [Value.oneCell']) hown (by omega) (cap - N)
  have HW2 := Lib.hid hown2
  have HK2 := Lib.hid (hk1.trans hk2 (fun _ _ e => e) (fun _ _ e => e))
  have n1 : N + 1 - N = 1 := by omega
  have n2 : ¬ cap = N := by omega
  clear hown hown2 hk1 hk2
  go_wp2_with fail
  go_ret
  exact HE.out _ HW2.out HK2.out
end Go.Proofs.Ytfaafndaelmbfaa
