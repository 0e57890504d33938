/- (*Box).All -/
import Derived.Test.YtfaafndaelmbfaaOAck
namespace Go.Proofs.Ytfaafndaelmbfaa
open Go.RowKit
attribute [local go_sem] Oper.semAt_some

/-- rows of what is owed that the call has made -/
structure Rwo (base : Nat) (W : World) (v : Value) (rs : List Ow) : Prop where
  own : W.ownsRow base 36 7 v rs.length (rs.flatMap encO)
  mw : ∀ r ∈ rs, Mw base W r.m
  ne : ∀ r ∈ rs, ∀ b, v.ownBlock = some b → r.m.kv.ownBlock ≠ some b ∧ r.m.sv.ownBlock ≠ some b
theorem Rwo.osl {base : Nat} {W : World} {v : Value} {rs : List Ow} (h : Rwo base W v rs) : Osl (fun b => base ≤ b) W v (rs.map Ow.pl) :=
  ⟨rs, rfl, (Sl.owned encO_len h.own).mono (fun b _ e => (h.own.lt b e).1), fun r hr => (h.mw r hr).mo⟩
theorem Rwo.below {base : Nat} {W W' : World} {v : Value} {rs : List Ow} (h : Rwo base W v rs) (hb : Below W.heap.size W W') : Rwo base W' v rs :=
  ⟨owns_keep h.own (fun b e => hb.block b (h.own.lt b e).2), fun r hr => (h.mw r hr).below hb, h.ne⟩
theorem Rwo.nil (base : Nat) (W : World) : Rwo base W (.slice none 0 0) [] := ⟨World.ownsRow_nil _ _ _ _, (fun r hr => by cases hr), (fun r hr => by cases hr)⟩
/-- one row more -/
theorem Rwo.snoc {base : Nat} {W W1 W' : World} {v v' : Value} {rs : List Ow} {r : Ow} (h : Rwo base W v rs) (hb : Below W.heap.size W W1) (hr : Mw W.heap.size W1 r.m) (hbase : base ≤ W.heap.size) {o : Obj} (hown : W'.ownsRow base 36 7 v' (rs ++ [r]).length ((rs ++ [r]).flatMap encO)) (hk : Kept (fun b => v.ownBlock = some b) (W1.alloc o) W') (hat : v'.ownBlock = v.ownBlock ∨ v'.ownBlock = some (W1.alloc o).heap.size) : Rwo base W' v' (rs ++ [r]) := by
  have hs : (W1.alloc o).heap.size = W1.heap.size + 1 := World.size_alloc ..
  have hal : Below W1.heap.size W1 (W1.alloc o) := (Below.refl _ W1).alloc (Nat.le_refl _) _
  have hlt : ∀ x : Ow, Mw base W1 x.m → ∀ b, (x.m.kv.ownBlock = some b ∨ x.m.sv.ownBlock = some b) → b < W1.heap.size := fun x hx b e => by
    rcases e with e | e
    · exact (hx.k.lt b e).2
    · exact (hx.s.lt b e).2
  have hr' : Mw base W1 r.m := hr.lower hbase
  have hrv : ∀ b, v.ownBlock = some b → r.m.kv.ownBlock ≠ some b ∧ r.m.sv.ownBlock ≠ some b := fun b e => by
    have := (h.own.lt b e).2
    exact ⟨fun e' => by have := (hr.k.lt b e').1; omega, fun e' => by have := (hr.s.lt b e').1; omega⟩
  have hall : ∀ x ∈ rs ++ [r], Mw base W1 x.m ∧ ∀ b, v.ownBlock = some b → x.m.kv.ownBlock ≠ some b ∧ x.m.sv.ownBlock ≠ some b := fun x hx => by
    rcases List.mem_append.1 hx with hx | hx
    · exact ⟨(h.mw x hx).below hb, h.ne x hx⟩
    · obtain rfl : x = r := by simpa using hx
      exact ⟨hr', hrv⟩
  refine ⟨hown, fun x hx => ?_, fun x hx b e => ?_⟩
  · obtain ⟨h1, h2⟩ := hall x hx
    have h3 := h1.below hal
    exact ⟨owns_keep h3.k (fun b e => hk.block b (h3.k.lt b e).2 (fun e' => (h2 b e').1 e)), owns_keep h3.s (fun b e => hk.block b (h3.s.lt b e).2 (fun e' => (h2 b e').2 e)), h3.ne⟩
  · obtain ⟨h1, h2⟩ := hall x hx
    rcases hat with h4 | h4
    · rw [h4] at e
      exact h2 b e
    · rw [h4] at e
      cases e
      exact ⟨fun e => by have := hlt x h1 _ (.inl e); omega, fun e => by have := hlt x h1 _ (.inr e); omega⟩
def AllTo (xs : List Ox) (w : World) (e : Ending) (w' : World) : Prop := ∃ v rs, e = .returned v ∧ rs.map Ow.pl = xs ∧ Rwo w.heap.size w' v rs ∧ Below w.heap.size w w'
def FewO (xs : List Ox) : Prop := ∀ x ∈ xs, Few x.m
set_option maxRecDepth 100000 in
theorem all_no {q : Value} {w : World} (h : BNo w q) : Calls Try.prog 11 #[q] w (Is (.slice none 0 0) w) := by
  have HN := Lib.hid (none_no h)
  clear h
  go_enter Try.func11, Try.ntmps11
  go_wp2_with fail
  refine HN.out.mono ?_
  rintro e w1 ⟨rfl, rfl⟩
  go_wp2_with fail
  go_ret
  exact ⟨rfl, rfl⟩
set_option maxRecDepth 100000 in
set_option maxHeartbeats 2000000 in
theorem all_any {S : Nat → Prop} {p : Nat} {w : World} {xs : List Ox} (h : BxAt S p w xs) (hf : FewO xs) (hn : xs.length ≤ 100000) : Calls Try.prog 11 #[bv p] w (AllTo xs w) := by
  have HN := Lib.hid (none_any h)
  obtain ⟨i0, hi, hi0, hi1, hi2⟩ := info_parts info_owed
  have HI := Lib.hid hi
  have HI0 := Lib.hid hi0
  have HI1 := Lib.hid hi1
  have HI2 := Lib.hid hi2
  obtain ⟨v, rs, rfl, hin⟩ := h
  obtain ⟨c, z⟩ := hin.box.rd
  obtain ⟨p1, c1, rfl⟩ := owns_slice hin.own
  rw [List.length_map] at hn
  have HSL := Lib.hid (Sl.owned encO_len hin.own)
  have HMO := Lib.hid hin.mo
  have HF : Hid (∀ r ∈ rs, Few r.m.m) := Lib.hid fun r hr => hf r.pl (List.mem_map.2 ⟨r, hr, rfl⟩)
  clear hin hi hi0 hi1 hi2 hf
  go_enter Try.func11, Try.ntmps11
  go_wp2_with fail
  refine HN.out.mono ?_
  rintro e w1 ⟨rfl, rfl⟩
  clear HN
  go_wp2_with fail
  clear c z
  go_loopw [3, 5, 13] (fun out _ iv_ wr => ∃ (k : Nat) (os : List Ow), iv_ = .int .i64 k ∧ k ≤ rs.length ∧ os.map Ow.pl = (rs.take k).map Ow.pl ∧ os.length = k ∧ Rwo w.heap.size wr out os ∧ Below w.heap.size w wr) (fun _ _ iv_ _ => rs.length - (intOf iv_).toNat)
  · exact ⟨0, [], rfl, by omega, rfl, rfl, Rwo.nil _ _, Below.refl _ _⟩
  obtain ⟨k, os, rfl, hk, hom, hol, hR, hB⟩ := hrel
  by_cases hlt : k < rs.length
  · obtain ⟨⟨⟨kv, sv, m⟩, tr, nx⟩, hx⟩ : ∃ r, rs[k]? = some r := ⟨_, List.getElem?_eq_getElem hlt⟩
    have hmem := List.mem_of_getElem? hx
    have g1 := (HMO.out _ hmem).below hB
    have hfew := HF.out _ hmem
    obtain ⟨a, rfl, _, _, hM⟩ := (HSL.out.below hB).at hx
    have x0 := hM k _ hx 0 _ rfl
    have x1 := hM k _ hx 1 _ rfl
    have x2 := hM k _ hx 2 _ rfl
    have x3 := hM k _ hx 3 _ rfl
    have x4 := hM k _ hx 4 _ rfl
    have x5 := hM k _ hx 5 _ rfl
    have x6 := hM k _ hx 6 _ rfl
    rw [Addr.add_zero'] at x0
    have x1' : wr.cell? ⟨(a.add (k * 7)).block, (a.add (k * 7)).off + 1, none⟩ = some (.string m.route) := x1
    have x2' : wr.cell? ⟨(a.add (k * 7)).block, (a.add (k * 7)).off + 2, none⟩ = some (.int .i64 m.at_) := x2
    have x3' : wr.cell? ⟨(a.add (k * 7)).block, (a.add (k * 7)).off + 3, none⟩ = some kv := x3
    have x4' : wr.cell? ⟨(a.add (k * 7)).block, (a.add (k * 7)).off + 4, none⟩ = some sv := x4
    have x5' : wr.cell? ⟨(a.add (k * 7)).block, (a.add (k * 7)).off + 5, none⟩ = some (.int .i64 tr) := x5
    have x6' : wr.cell? ⟨(a.add (k * 7)).block, (a.add (k * 7)).off + 6, none⟩ = some (.int .i64 nx) := x6
    obtain ⟨q1, d1, e3, _, _⟩ := g1.k.len
    obtain ⟨q2, d2, e4, _, _⟩ := g1.s.len
    simp only at e3 e4 x0 x1 x2 x3 x4 x3' x4' hfew
    subst e3 e4
    have hkk : (k : Int) < (rs.length : Int) := by omega
    have HG1 := Lib.hid g1
    have HFEW := Lib.hid hfew
    have HOM : Hid (∀ r' : Ow, r'.pl = ⟨m, tr, nx⟩ → (os ++ [r']).map Ow.pl = (rs.take (k + 1)).map Ow.pl) := Lib.hid fun r' e => by rw [take_snoc' hx, List.map_append, List.map_append, hom, List.map_cons, List.map_nil, List.map_cons, List.map_nil, e]; rfl
    have HB := Lib.hid hB
    have HR := Lib.hid hR
    have HOL := Lib.hid hol
    have hok : os.length ≤ 100000 := by omega
    clear hx hmem g1 hfew hM hom hol hR hB x1 x2 x3 x4 x5 x6
    have hb0 : Below wr.heap.size wr (wr.alloc (.cells (oc ⟨⟨.slice q1 m.ks.length d1, .slice q2 m.ss.length d2, m⟩, tr, nx⟩) 36)) := (Below.refl _ wr).alloc (Nat.le_refl _) _
    have HG := Lib.hid (twin_any (HG1.out.below hb0) HFEW.out)
    have b5 := Box.new wr (oc ⟨⟨.slice q1 m.ks.length d1, .slice q2 m.ss.length d2, m⟩, tr, nx⟩) 36
    have HB5 := Lib.hid b5
    have HB0 := Lib.hid hb0
    clear b5 hb0
    go_wp2_with fail
    refine HG.out.mono ?_
    rintro e w1 ⟨⟨kv, sv, m3⟩, rfl, hrm, hmw, hb1⟩
    obtain rfl : m3 = m := hrm
    obtain ⟨q3, e3⟩ := owns_slice hmw.k
    obtain ⟨q4, e4⟩ := owns_slice hmw.s
    obtain ⟨d3, e3⟩ := e3
    obtain ⟨d4, e4⟩ := e4
    simp only at e3 e4
    subst e3 e4
    have HOM1 := Lib.hid (HOM.out ⟨⟨.slice q3 m3.ks.length d3, .slice q4 m3.ss.length d4, m3⟩, tr, nx⟩ rfl)
    have h51 := HB5.out.below hb1
    have HB51 := Lib.hid h51
    obtain ⟨c, z⟩ := h51.rd
    have hbl := hb1.size
    rw [World.size_alloc] at hbl
    have HMW := Lib.hid hmw
    have HBL := Lib.hid (below_then HB0.out hb1)
    clear h51 hmw hb1 HG HOM x0 x1' x2' x3' x4' x5' x6'
    have hown : w1.ownsRow w.heap.size 36 7 u3 os.length (os.flatMap encO) := owns_keep HR.out.own (fun b e => HBL.out.block b (HR.out.own.lt b e).2)
    have HOW := Lib.hid hown
    have HLT : Hid (∀ b, u3.ownBlock = some b → ¬ b = wr.heap.size) := Lib.hid fun b e => by have := (HR.out.own.lt b e).2; omega
    clear hown
    go_wp2_with (at_builtin; (have hkc := (((((Kept.refl (fun b => b = wr.heap.size) w1).setCell ⟨wr.heap.size, 0, none⟩ (.int .u32 m3.rule) (fun _ => rfl)).setCell ⟨wr.heap.size, 1, none⟩ (.string m3.route) (fun _ => rfl)).setCell ⟨wr.heap.size, 2, none⟩ (.int .i64 m3.at_) (fun _ => rfl)).setCell ⟨wr.heap.size, 3, none⟩ (.slice q3 m3.ks.length d3) (fun _ => rfl)).setCell ⟨wr.heap.size, 4, none⟩ (.slice q4 m3.ss.length d4) (fun _ => rfl)); (obtain ⟨W5, hW5⟩ : ∃ W5, ((((w1.setCell ⟨wr.heap.size, 0, none⟩ (.int .u32 m3.rule)).setCell ⟨wr.heap.size, 1, none⟩ (.string m3.route)).setCell ⟨wr.heap.size, 2, none⟩ (.int .i64 m3.at_)).setCell ⟨wr.heap.size, 3, none⟩ (.slice q3 m3.ks.length d3)).setCell ⟨wr.heap.size, 4, none⟩ (.slice q4 m3.ss.length d4) = W5 := ⟨_, rfl⟩); (have hs5 : W5.heap.size = w1.heap.size := by rw [← hW5]; simp); rw [hW5] at hkc ⊢; clear hW5; rw [← hs5]; refine wpList_append_sl encO_len rfl (.tmp 21) (.tmp 23) 33 rfl w.heap.size 36 i0 _ 96 Try.underlying33 HI.out HI0.out HI1.out HI2.out rfl (by decide) (v := u3) (xs := os) (ys := [⟨⟨.slice q3 m3.ks.length d3, .slice q4 m3.ss.length d4, m3⟩, tr, nx⟩]) (by rfl) (by rfl) (owns_keep HOW.out (fun b e => (hkc.alloc _).block b (HOW.out.lt b e).2 (HLT.out b e))) (Sl.one (S := fun _ => True) encO_len (Box.new _ _ _) rfl trivial) (by simp [Value.oneCell']) (by simp only [List.length_cons, List.length_nil]; unfold maxLen; omega) (by simp only [List.length_cons, List.length_nil]; omega) (by have := HB.out.size; rw [World.size_alloc]; omega) ?_; intro v2 w2 hown2 hk2 hat2)
    have hb5 : Below wr.heap.size wr W5 := HBL.out.trans (hkc.below (fun b e => by omega) (by omega))
    have hmw := HMW.out.kept hkc (fun b hb e => by rw [World.size_alloc] at hb; omega)
    have HR2 := HR.out.snoc hb5 (r := ⟨⟨.slice q3 m3.ks.length d3, .slice q4 m3.ss.length d4, m3⟩, tr, nx⟩) (hmw.lower (by simp)) HB.out.size hown2 hk2 hat2
    have HB2 := Lib.hid (HB.out.trans ((hb5.alloc hb5.size (.cells (oc ⟨⟨.slice q3 m3.ks.length d3, .slice q4 m3.ss.length d4, m3⟩, tr, nx⟩) 36)).mono HB.out.size |>.trans (hk2.below (fun b e => (HOW.out.lt b e).1) (by have := HB.out.size; rw [World.size_alloc]; omega))))
    exact ⟨⟨k + 1, _, by simp, by omega, HOM1.out, by simp [HOL.out], HR2, HB2.out⟩, by simp [intOf]; omega⟩
  · obtain rfl : k = rs.length := by omega
    rw [List.take_length] at hom
    obtain ⟨p2, c2, rfl⟩ := owns_slice hR.own
    have HOM := Lib.hid hom
    clear hom hol
    go_wp2_with fail
    go_ret
    exact ⟨_, os, rfl, HOM.out, hR, hB⟩
end Go.Proofs.Ytfaafndaelmbfaa
