/- The document's Ack and Add. -/
import Derived.Test.YtfaafndaelmbfaaORf2
namespace Go.Proofs.Ytfaafndaelmbfaa
open Go.RowKit
attribute [local go_sem] Oper.semAt_some

/-- rows of the call's own; what they hold lies in S -/
structure Rro (base : Nat) (S : Nat → Prop) (W : World) (v : Value) (rs : List Ow) : Prop where
  own : W.ownsRow base 36 7 v rs.length (rs.flatMap encO)
  mo : ∀ r ∈ rs, Mo S W r.m
theorem Rro.osl {base : Nat} {S : Nat → Prop} {W : World} {v : Value} {rs : List Ow} (h : Rro base S W v rs) : Osl (fun b => S b ∨ base ≤ b) W v (rs.map Ow.pl) :=
  ⟨rs, rfl, (Sl.owned encO_len h.own).mono (fun b _ e => .inr (h.own.lt b e).1), fun r hr => (h.mo r hr).mono (fun _ _ s => .inl s)⟩
theorem Rro.nil (base : Nat) (S : Nat → Prop) (W : World) : Rro base S W (.slice none 0 0) [] := ⟨World.ownsRow_nil _ _ _ _, fun r hr => by cases hr⟩
/-- one row more -/
theorem Rro.snoc {base : Nat} {S : Nat → Prop} {W W' : World} {v v' : Value} {rs : List Ow} {r : Ow} {o : Obj} (h : Rro base S W v rs) (hr : Mo S W r.m) (hS : ∀ b, S b → b < base)
    (hown : W'.ownsRow base 36 7 v' (rs ++ [r]).length ((rs ++ [r]).flatMap encO)) (hk : Kept (fun b => v.ownBlock = some b) (W.alloc o) W') : Rro base S W' v' (rs ++ [r]) := by
  have hal : Below W.heap.size W (W.alloc o) := (Below.refl _ W).alloc (Nat.le_refl _) _
  refine ⟨hown, fun x hx => ?_⟩
  have hm : Mo S W x.m := by
    rcases List.mem_append.1 hx with hx | hx
    · exact h.mo x hx
    · obtain rfl : x = r := by simpa using hx
      exact hr
  exact (hm.below hal).kept hk (fun b _ s e => by have := (h.own.lt b e).1; have := hS b s; omega)
def RefTo (xs : List Ox) (S : Nat → Prop) (w : World) (e : Ending) (w' : World) : Prop := ∃ v rs, e = .returned v ∧ rs.map Ow.pl = xs ∧ Rro w.heap.size S w' v rs ∧ Below w.heap.size w w'
set_option maxRecDepth 100000 in
set_option maxHeartbeats 2000000 in
theorem rack_any {S T : Nat → Prop} {v : Value} {ms : List Ow} {r i : Int} {w : World} (h : Sl T w v 7 encO ms) (hmo : ∀ o ∈ ms, Mo S w o.m) (hS : ∀ b, S b → b < w.heap.size) (hn : ms.length ≤ 100000) : Calls Try.prog 22 #[v, .int .u32 r, .int .i64 i] w (RefTo (rackL (ms.map Ow.pl) r i) S w) := by
  obtain ⟨p0, c0, rfl, -, -⟩ := h.len
  obtain ⟨i0, hi, hi0, hi1, hi2⟩ := info_parts info_owed
  have HI := Lib.hid hi
  have HI0 := Lib.hid hi0
  have HI1 := Lib.hid hi1
  have HI2 := Lib.hid hi2
  have HL := Lib.hid h
  have HMO := Lib.hid hmo
  have HS := Lib.hid hS
  clear hi hi0 hi1 hi2 h hmo hS
  go_enter Try.func22, Try.ntmps22
  go_wp2_with fail
  go_loopw [7, 8] (fun out iv_ wr => ∃ (k : Nat) (os : List Ow), iv_ = .int .i64 k ∧ k ≤ ms.length ∧ os.map Ow.pl = rackL ((ms.take k).map Ow.pl) r i ∧ os.length ≤ k ∧ Rro w.heap.size S wr out os ∧ Below w.heap.size w wr) (fun _ iv_ _ => ms.length - (intOf iv_).toNat)
  · exact ⟨0, [], rfl, by omega, rfl, by simp, Rro.nil _ _ _, Below.refl _ _⟩
  obtain ⟨k, os, rfl, hk, hom, hol, hR, hB⟩ := hrel
  have HOM := Lib.hid hom
  have HR := Lib.hid hR
  have HB := Lib.hid hB
  clear hom hR hB
  by_cases hlt : k < ms.length
  · obtain ⟨⟨⟨kv, sv, m⟩, tr, nx⟩, hx⟩ : ∃ r, ms[k]? = some r := ⟨_, List.getElem?_eq_getElem hlt⟩
    have hm := HMO.out _ (List.mem_of_getElem? hx)
    obtain ⟨q1, d1, e3, _, _⟩ := hm.k.len
    obtain ⟨q2, d2, e4, _, _⟩ := hm.s.len
    simp only at e3 e4
    subst e3 e4
    have HM := Lib.hid (hm.below HB.out)
    obtain ⟨a, rfl, -, -, hM⟩ := (HL.out.below HB.out).at hx
    obtain ⟨x0, x1, x2, x3, x4, x5, x6⟩ := Co.of hM hx
    simp only at x0 x1 x2 x3 x4 x5 x6
    have hkk : (k : Int) < (ms.length : Int) := by omega
    have HTK : Hid (rackL ((ms.take (k + 1)).map Ow.pl) r i = rackL ((ms.take k).map Ow.pl) r i ++ if isM r i ⟨m, tr, nx⟩ then [] else [⟨m, tr, nx⟩]) := Lib.hid (by
      rw [take_snoc' hx, List.map_append]
      unfold rackL
      rw [List.filter_append]
      congr 1
      show List.filter _ [(⟨m, tr, nx⟩ : Ox)] = _
      by_cases hq : isM r i ⟨m, tr, nx⟩ = true <;> simp [hq])
    clear hx hM hm
    have hok : os.length ≤ 100000 := by omega
    have HGO : Hid (isM r i ⟨m, tr, nx⟩ = false → ∀ (v2 : Value) (w2 : World), w2.ownsRow w.heap.size 36 7 v2 (os ++ [(⟨⟨.slice q1 m.ks.length d1, .slice q2 m.ss.length d2, m⟩, tr, nx⟩ : Ow)]).length ((os ++ [(⟨⟨.slice q1 m.ks.length d1, .slice q2 m.ss.length d2, m⟩, tr, nx⟩ : Ow)]).flatMap encO) → Kept (fun b => u7.ownBlock = some b) (wr.alloc (.cells (oc ⟨⟨.slice q1 m.ks.length d1, .slice q2 m.ss.length d2, m⟩, tr, nx⟩) 36)) w2 → ∃ os' : List Ow, os'.map Ow.pl = rackL ((ms.take (k + 1)).map Ow.pl) r i ∧ os'.length ≤ k + 1 ∧ Rro w.heap.size S w2 v2 os' ∧ Below w.heap.size w w2) := Lib.hid fun hf v2 w2 hown hk2 => ⟨_, by rw [HTK.out, hf, List.map_append, HOM.out]; rfl, by simp; omega, HR.out.snoc HM.out HS.out hown hk2, by
      have hb0 : Below wr.heap.size wr (wr.alloc (.cells (oc ⟨⟨.slice q1 m.ks.length d1, .slice q2 m.ss.length d2, m⟩, tr, nx⟩) 36)) := (Below.refl _ wr).alloc (Nat.le_refl _) _
      exact (HB.out.trans (hb0.mono HB.out.size)).trans (hk2.below (fun b e => (HR.out.own.lt b e).1) (by have := HB.out.size; have := hb0.size; omega))⟩
    have HOWN := Lib.hid HR.out.own
    have HBS := Lib.hid HB.out.size
    by_cases g1 : m.rule = r
    · have q1' : (m.rule != r) = false := by simp [g1]
      by_cases g2 : m.at_ = i
      · have q2' : (m.at_ != i) = false := by simp [g2]
        have HT2 : Hid (os.map Ow.pl = rackL ((ms.take (k + 1)).map Ow.pl) r i) := Lib.hid (by
          rw [HTK.out, show isM r i ⟨m, tr, nx⟩ = true from by unfold isM; simp [g1, g2], if_pos rfl, List.append_nil]
          exact HOM.out)
        clear g1 g2
        go_wp2_with fail
        exact ⟨⟨k + 1, os, by simp, by omega, HT2.out, by omega, HR.out, HB.out⟩, by simp [intOf]; omega⟩
      · have q2' : (m.at_ != i) = true := by simp [g2]
        have HQ : Hid (isM r i ⟨m, tr, nx⟩ = false) := Lib.hid (by unfold isM; simp [g2])
        clear g1 g2
        have hb0 : Below wr.heap.size wr (wr.alloc (.cells (oc ⟨⟨.slice q1 m.ks.length d1, .slice q2 m.ss.length d2, m⟩, tr, nx⟩) 36)) := (Below.refl _ wr).alloc (Nat.le_refl _) _
        have HB0 := Lib.hid hb0
        clear hb0
        go_wp2_with (at_builtin; refine wpList_append_sl encO_len rfl (.tmp 33) (.tmp 38) 33 rfl w.heap.size 36 i0 _ 96 Try.underlying33 HI.out HI0.out HI1.out HI2.out rfl (by decide) (v := u7) (xs := os) (ys := [⟨⟨.slice q1 m.ks.length d1, .slice q2 m.ss.length d2, m⟩, tr, nx⟩]) (by rfl) (by rfl) (owns_keep HOWN.out (fun b e => HB0.out.block b (HOWN.out.lt b e).2)) (Sl.one (S := fun _ => True) encO_len (Box.new _ _ _) rfl trivial) (by simp [Value.oneCell']) (by simp only [List.length_cons, List.length_nil]; unfold maxLen; omega) (by simp only [List.length_cons, List.length_nil]; omega) (by have := HBS.out; rw [World.size_alloc]; omega) ?_; intro v2 w2 hown2 hk2 hat2; obtain ⟨os', ho1, ho2, ho3, ho4⟩ := HGO.out HQ.out v2 w2 hown2 hk2; clear hown2 hk2 hat2)
        exact ⟨⟨k + 1, os', by simp, by omega, ho1, ho2, ho3, ho4⟩, by simp [intOf]; omega⟩
    · have q1' : (m.rule != r) = true := by simp [g1]
      have HQ : Hid (isM r i ⟨m, tr, nx⟩ = false) := Lib.hid (by unfold isM; simp [g1])
      clear g1
      have hb0 : Below wr.heap.size wr (wr.alloc (.cells (oc ⟨⟨.slice q1 m.ks.length d1, .slice q2 m.ss.length d2, m⟩, tr, nx⟩) 36)) := (Below.refl _ wr).alloc (Nat.le_refl _) _
      have HB0 := Lib.hid hb0
      clear hb0
      go_wp2_with (at_builtin; refine wpList_append_sl encO_len rfl (.tmp 33) (.tmp 38) 33 rfl w.heap.size 36 i0 _ 96 Try.underlying33 HI.out HI0.out HI1.out HI2.out rfl (by decide) (v := u7) (xs := os) (ys := [⟨⟨.slice q1 m.ks.length d1, .slice q2 m.ss.length d2, m⟩, tr, nx⟩]) (by rfl) (by rfl) (owns_keep HOWN.out (fun b e => HB0.out.block b (HOWN.out.lt b e).2)) (Sl.one (S := fun _ => True) encO_len (Box.new _ _ _) rfl trivial) (by simp [Value.oneCell']) (by simp only [List.length_cons, List.length_nil]; unfold maxLen; omega) (by simp only [List.length_cons, List.length_nil]; omega) (by have := HBS.out; rw [World.size_alloc]; omega) ?_; intro v2 w2 hown2 hk2 hat2; obtain ⟨os', ho1, ho2, ho3, ho4⟩ := HGO.out HQ.out v2 w2 hown2 hk2; clear hown2 hk2 hat2)
      exact ⟨⟨k + 1, os', by simp, by omega, ho1, ho2, ho3, ho4⟩, by simp [intOf]; omega⟩
  · obtain rfl : k = ms.length := by omega
    rw [List.take_length] at HOM
    obtain ⟨p2, c2, rfl⟩ := owns_slice HR.out.own
    go_wp2_with fail
    go_ret
    exact ⟨_, os, rfl, HOM.out, HR.out, HB.out⟩
end Go.Proofs.Ytfaafndaelmbfaa
