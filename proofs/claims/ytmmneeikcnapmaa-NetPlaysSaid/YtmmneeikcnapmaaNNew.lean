/- New, All -/
import Derived.Test.YtmmneeikcnapmaaNNet
namespace Go.Proofs.Ytmmneeikcnapmaa
open Go.RowKit
attribute [local go_sem] Oper.semAt_some

def NewTo (l : List Ms) (w : World) (e : Ending) (w' : World) : Prop := e = .returned (nv w.heap.size) ∧ NetAt (fun b => w.heap.size < b) w.heap.size w' l ∧ Below w.heap.size w w'
theorem take_snoc' {α : Type} {l : List α} {k : Nat} {x : α} (h : l[k]? = some x) : l.take (k + 1) = l.take k ++ [x] := by
  rw [List.take_add_one, h]; rfl
set_option maxRecDepth 100000 in
set_option maxHeartbeats 1000000 in
theorem new_any {T : Nat → Prop} {v : Value} {w : World} {l : List Ms} (h : Msl T w v l) (hf : ∀ x ∈ l, Few x) (hn : l.length ≤ 16) : Calls Try.prog 11 #[v] w (NewTo l w) := by
  obtain ⟨p1, c1, rfl⟩ := h.slice
  have HL := Lib.hid h
  have HF := Lib.hid hf
  clear h hf
  go_enter Try.func11, Try.ntmps11
  go_wp2_with fail
  have b0 := Box.new w #[.slice none 0 0, .bool true] 53
  have hB0 : Below w.heap.size w (w.alloc (.cells #[.slice none 0 0, .bool true] 53)) := (Below.refl _ w).alloc (Nat.le_refl _) _
  go_loopw [5, 10] (fun _ iv_ wr => ∃ k : Nat, iv_ = .int .i64 k ∧ k ≤ l.length ∧ NetAt (fun b => w.heap.size < b) w.heap.size wr (l.take k) ∧ Below w.heap.size w wr) (fun _ iv_ _ => l.length - (intOf iv_).toNat)
  · exact ⟨0, rfl, by omega, ⟨_, [], rfl, b0, World.ownsRow_nil _ _ _ _, (fun b e => by cases e), (fun r hr => by cases hr), by simp, (fun r hr => by cases hr)⟩, hB0⟩
  clear b0 hB0
  obtain ⟨k, rfl, hk, hN, hB⟩ := hrel
  by_cases hlt : k < l.length
  · obtain ⟨x, hx⟩ : ∃ x, l[k]? = some x := ⟨_, List.getElem?_eq_getElem hlt⟩
    obtain ⟨a1, ⟨kv, sv, m⟩, rfl, e1, g1, x0, x1, x2, x3, x4⟩ := (HL.out.below hB).at hx
    obtain ⟨q1, d1, e3, _, _⟩ := g1.k.len
    obtain ⟨q2, d2, e4, _, _⟩ := g1.s.len
    simp only at e3 e4 x0 x1 x2 x3 x4
    subst e3 e4
    have hkk : (k : Int) < (l.length : Int) := by omega
    have hb1 : Below wr.heap.size wr (wr.alloc (.cells (mc ⟨.slice q1 m.ks.length d1, .slice q2 m.ss.length d2, m⟩) 33)) := (Below.refl _ wr).alloc (Nat.le_refl _) _
    have HG := Lib.hid (send_any (p := w.heap.size) (hN.below hb1) (g1.below hb1) (by rw [e1]; exact HF.out x (List.mem_of_getElem? hx)) (fun k hk => by have := hN.lt; rw [World.size_alloc] at hk; omega))
    have HT : Hid (sendL (l.take k) m = l.take (k + 1)) := Lib.hid (by unfold sendL; rw [if_pos (by rw [List.length_take]; omega), take_snoc' hx, ← e1])
    have HB := Lib.hid (below_then hB hb1)
    clear hx e1 g1 hN hB hb1
    go_wp2_with fail
    refine HG.out.mono ?_
    rintro e w1 ⟨rfl, hN, hk1⟩
    have HN := Lib.hid hN
    have HB1 := Lib.hid (HB.out.trans (hk1.below (fun b s => by omega) HB.out.size))
    clear hN hk1 HG HB
    simp only [HT.out] at HN
    clear HT x0 x1 x2 x3 x4
    go_wp2_with fail
    exact ⟨⟨k + 1, by simp, by omega, HN.out, HB1.out⟩, by simp [intOf]; omega⟩
  · obtain rfl : k = l.length := by omega
    rw [List.take_length] at hN
    go_wp2_with fail
    go_ret
    exact ⟨rfl, hN, hB⟩
/-- rows of messages that the call has made -/
structure Rwm (base : Nat) (W : World) (v : Value) (rs : List Mr) : Prop where
  own : W.ownsRow base 33 5 v rs.length (rs.flatMap encM)
  mw : ∀ r ∈ rs, Mw base W r
  ne : ∀ r ∈ rs, ∀ b, v.ownBlock = some b → r.kv.ownBlock ≠ some b ∧ r.sv.ownBlock ≠ some b
theorem Rwm.msl {base : Nat} {W : World} {v : Value} {rs : List Mr} (h : Rwm base W v rs) : Msl (fun b => base ≤ b) W v (rs.map Mr.m) :=
  ⟨rs, rfl, (Sl.owned encM_len h.own).mono (fun b _ e => (h.own.lt b e).1), fun r hr => (h.mw r hr).mo⟩
theorem Rwm.below {base : Nat} {W W' : World} {v : Value} {rs : List Mr} (h : Rwm base W v rs) (hb : Below W.heap.size W W') : Rwm base W' v rs :=
  ⟨owns_keep h.own (fun b e => hb.block b (h.own.lt b e).2), fun r hr => (h.mw r hr).below hb, h.ne⟩
/-- one row more -/
theorem Rwm.snoc {base : Nat} {W W1 W' : World} {v v' : Value} {rs : List Mr} {r : Mr} (h : Rwm base W v rs) (hb : Below W.heap.size W W1) (hr : Mw W.heap.size W1 r) (hbase : base ≤ W.heap.size) {o : Obj} (hown : W'.ownsRow base 33 5 v' (rs ++ [r]).length ((rs ++ [r]).flatMap encM)) (hk : Kept (fun b => v.ownBlock = some b) (W1.alloc o) W') (hat : v'.ownBlock = v.ownBlock ∨ v'.ownBlock = some (W1.alloc o).heap.size) : Rwm base W' v' (rs ++ [r]) := by
  have hs : (W1.alloc o).heap.size = W1.heap.size + 1 := World.size_alloc ..
  have hal : Below W1.heap.size W1 (W1.alloc o) := (Below.refl _ W1).alloc (Nat.le_refl _) _
  have hlt : ∀ x, Mw base W1 x → ∀ b, (x.kv.ownBlock = some b ∨ x.sv.ownBlock = some b) → b < W1.heap.size := fun x hx b e => by
    rcases e with e | e
    · exact (hx.k.lt b e).2
    · exact (hx.s.lt b e).2
  have hr' : Mw base W1 r := hr.lower hbase
  have hrv : ∀ b, v.ownBlock = some b → r.kv.ownBlock ≠ some b ∧ r.sv.ownBlock ≠ some b := fun b e => by
    have := (h.own.lt b e).2
    exact ⟨fun e' => by have := (hr.k.lt b e').1; omega, fun e' => by have := (hr.s.lt b e').1; omega⟩
  have hall : ∀ x ∈ rs ++ [r], Mw base W1 x ∧ ∀ b, v.ownBlock = some b → x.kv.ownBlock ≠ some b ∧ x.sv.ownBlock ≠ some b := fun x hx => by
    rcases List.mem_append.1 hx with hx | hx
    · exact ⟨(h.mw x hx).below hb, h.ne x hx⟩
    · obtain rfl : x = r := by simpa using hx
      exact ⟨hr', hrv⟩
  refine ⟨hown, fun x hx => ?_, fun x hx b e => ?_⟩
  · obtain ⟨h1, h2⟩ := hall x hx
    have h3 := h1.below hal
    exact ⟨owns_keep h3.k (fun b e => hk.block b (h3.k.lt b e).2 (fun e' => (h2 b e').1 e)), owns_keep h3.s (fun b e => hk.block b (h3.s.lt b e).2 (fun e' => (h2 b e').2 e)), h3.ne⟩
  · obtain ⟨h1, h2⟩ := hall x hx
    rcases hat with h4 | h4
    · rw [h4] at e
      exact h2 b e
    · rw [h4] at e
      cases e
      exact ⟨fun e => by have := hlt x h1 _ (.inl e); omega, fun e => by have := hlt x h1 _ (.inr e); omega⟩
def AllTo (xs : List Ms) (w : World) (e : Ending) (w' : World) : Prop := ∃ v rs, e = .returned v ∧ rs.map Mr.m = xs ∧ Rwm w.heap.size w' v rs ∧ Below w.heap.size w w'
set_option maxRecDepth 100000 in
set_option maxHeartbeats 1000000 in
theorem all_any {S : Nat → Prop} {p : Nat} {w : World} {xs : List Ms} (h : NetAt S p w xs) (hn : xs.length ≤ 100000) : Calls Try.prog 21 #[nv p] w (AllTo xs w) := by
  obtain ⟨i0, hi, hi0, hi1, hi2⟩ := info_parts info_msg
  have HI := Lib.hid hi
  have HI0 := Lib.hid hi0
  have HI1 := Lib.hid hi1
  have HI2 := Lib.hid hi2
  obtain ⟨v, rs, rfl, hin⟩ := h
  obtain ⟨c, z⟩ := hin.box.rd
  obtain ⟨p1, c1, rfl⟩ := owns_slice hin.own
  rw [List.length_map] at hn
  have HSL := Lib.hid (Sl.owned encM_len hin.own)
  have HMO := Lib.hid hin.mo
  have HF := Lib.hid hin.few
  clear hin hi hi0 hi1 hi2
  go_enter Try.func21, Try.ntmps21
  go_wp2_with fail
  go_loopw [3, 5, 13] (fun out _ iv_ wr => ∃ (k : Nat) (os : List Mr), iv_ = .int .i64 k ∧ k ≤ rs.length ∧ os.map Mr.m = (rs.take k).map Mr.m ∧ os.length = k ∧ Rwm w.heap.size wr out os ∧ Below w.heap.size w wr) (fun _ _ iv_ _ => rs.length - (intOf iv_).toNat)
  · exact ⟨0, [], rfl, by omega, rfl, rfl, ⟨World.ownsRow_nil _ _ _ _, (fun r hr => by cases hr), (fun r hr => by cases hr)⟩, Below.refl _ _⟩
  obtain ⟨k, os, rfl, hk, hom, hol, hR, hB⟩ := hrel
  by_cases hlt : k < rs.length
  · obtain ⟨⟨kv, sv, m⟩, hx⟩ : ∃ r, rs[k]? = some r := ⟨_, List.getElem?_eq_getElem hlt⟩
    have hmem := List.mem_of_getElem? hx
    have g1 := (HMO.out _ hmem).below hB
    have hfew := HF.out _ hmem
    obtain ⟨a1, rfl, _, _, hM⟩ := (HSL.out.below hB).at hx
    obtain ⟨x0, x1, x2, x3, x4⟩ := Cm.of hM hx
    obtain ⟨q1, d1, e3, _, _⟩ := g1.k.len
    obtain ⟨q2, d2, e4, _, _⟩ := g1.s.len
    simp only at e3 e4 x0 x1 x2 x3 x4 hfew
    subst e3 e4
    have hkk : (k : Int) < (rs.length : Int) := by omega
    have hb1 : Below wr.heap.size wr (wr.alloc (.cells (mc ⟨.slice q1 m.ks.length d1, .slice q2 m.ss.length d2, m⟩) 33)) := (Below.refl _ wr).alloc (Nat.le_refl _) _
    have HG := Lib.hid (twin_any (g1.below hb1) hfew)
    have HOM : Hid (∀ r' : Mr, r'.m = m → (os ++ [r']).map Mr.m = (rs.take (k + 1)).map Mr.m) := Lib.hid fun r' e => by rw [take_snoc' hx, List.map_append, List.map_append, hom]; simp [e]
    have HB := Lib.hid (below_then hB hb1)
    have HR := Lib.hid (hR.below hb1)
    have HOL := Lib.hid hol
    have hok : os.length ≤ 100000 := by omega
    clear hx hmem g1 hfew hM hom hol hR hB hb1
    go_wp2_with fail
    refine HG.out.mono ?_
    rintro e w1 ⟨⟨kv, sv, m3⟩, rfl, hrm, hmw, hb1⟩
    obtain rfl : m3 = m := hrm
    obtain ⟨q3, e3⟩ := owns_slice hmw.k
    obtain ⟨q4, e4⟩ := owns_slice hmw.s
    obtain ⟨d3, e3⟩ := e3
    obtain ⟨d4, e4⟩ := e4
    simp only at e3 e4
    subst e3 e4
    have HOM1 := Lib.hid (HOM.out ⟨.slice q3 m3.ks.length d3, .slice q4 m3.ss.length d4, m3⟩ rfl)
    have HBB := Lib.hid (below_then HB.out hb1)
    have HMW := Lib.hid hmw
    have HBL := Lib.hid hb1
    have hsz : w.heap.size ≤ w1.heap.size := HBB.out.size
    have hown : w1.ownsRow w.heap.size 33 5 u3 os.length (os.flatMap encM) := owns_keep HR.out.own (fun b e => hb1.block b (HR.out.own.lt b e).2)
    have HOW := Lib.hid hown
    clear hmw hb1 hown HG HOM x0 x1 x2 x3 x4
    go_wp2_with (at_builtin; refine wpList_append_sl encM_len rfl (.tmp 17) (.tmp 20) 22 rfl w.heap.size 33 i0 _ 80 Try.underlying22 HI.out HI0.out HI1.out HI2.out rfl (by decide) (v := u3) (xs := os) (ys := [⟨.slice q3 m3.ks.length d3, .slice q4 m3.ss.length d4, m3⟩]) (by rfl) (by rfl) (owns_keep HOW.out (fun b e => Below.heap_alloc _ _ _ (HOW.out.lt b e).2)) (Sl.one (S := fun _ => True) encM_len (Box.new _ _ _) rfl trivial) (by simp [Value.oneCell']) (by simp only [List.length_cons, List.length_nil]; unfold maxLen; omega) (by simp only [List.length_cons, List.length_nil]; omega) (by rw [World.size_alloc]; omega) ?_; intro v2 w2 hown2 hk2 hat2)
    have HR2 := HR.out.snoc HBL.out HMW.out HB.out.size hown2 hk2 hat2
    have HB2 := Lib.hid (HBB.out.trans (((Below.refl _ w1).alloc (Nat.le_refl _) _).mono hsz |>.trans (hk2.below (fun b e => (HOW.out.lt b e).1) (by rw [World.size_alloc]; omega))))
    exact ⟨⟨k + 1, _, by simp, by omega, HOM1.out, by simp [HOL.out], HR2, HB2.out⟩, by simp [intOf]; omega⟩
  · obtain rfl : k = rs.length := by omega
    rw [List.take_length] at hom
    obtain ⟨p2, c2, rfl⟩ := owns_slice hR.own
    have HOM := Lib.hid hom
    clear hom hol
    go_wp2_with fail
    go_ret
    exact ⟨_, os, rfl, HOM.out, hR, hB⟩
end Go.Proofs.Ytmmneeikcnapmaa
