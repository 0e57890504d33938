/- mute.Any: one of any mutes -/
import Derived.Test.YtajflljemfgkiaaMutC
namespace Go.Proofs.Ytajflljemfgkiaa
open Go.RowKit Go.Shelf Mut
attribute [local go_sem] Oper.semAt_some

/-- the mutes that lie behind an address -/
def MAt (W : World) (a : Addr) (ms : List MuteD) : Prop := ∀ (i : Nat) (m : MuteD), ms[i]? = some m → ∀ (j : Nat) (v : Value), #[.string m.nm, .bool m.d0, .bool m.d1, .bool m.d2, .bool m.d3, .bool m.d4, .bool m.d5, .bool m.d6, .int .i64 m.f, .int .i64 m.t][j]? = some v → W.cell? ((a.add (i * 10)).add j) = some v
theorem add_block (a : Addr) (k : Nat) : (a.add k).block = a.block := by unfold Addr.add; split <;> rfl
theorem MAt.below {W W' : World} {a : Addr} {ms : List MuteD} (h : MAt W a ms) {B : Nat} (hb : Below B W W') (ha : a.block < B) : MAt W' a ms := fun i m hm j v hv => by
  have := h i m hm j v hv
  rw [hb.cell (by rw [add_block, add_block]; exact ha)]; exact this
theorem MAt.at {W : World} {a : Addr} {ms : List MuteD} {i : Nat} {m : MuteD} (h : MAt W a ms) (hi : ms[i]? = some m) :
    W.cell? (a.add (i * 10)) = some (.string m.nm) ∧ W.cell? ⟨(a.add (i * 10)).block, (a.add (i * 10)).off + 1, none⟩ = some (.bool m.d0) ∧ W.cell? ⟨(a.add (i * 10)).block, (a.add (i * 10)).off + 2, none⟩ = some (.bool m.d1) ∧ W.cell? ⟨(a.add (i * 10)).block, (a.add (i * 10)).off + 3, none⟩ = some (.bool m.d2) ∧ W.cell? ⟨(a.add (i * 10)).block, (a.add (i * 10)).off + 4, none⟩ = some (.bool m.d3) ∧ W.cell? ⟨(a.add (i * 10)).block, (a.add (i * 10)).off + 5, none⟩ = some (.bool m.d4) ∧ W.cell? ⟨(a.add (i * 10)).block, (a.add (i * 10)).off + 6, none⟩ = some (.bool m.d5) ∧ W.cell? ⟨(a.add (i * 10)).block, (a.add (i * 10)).off + 7, none⟩ = some (.bool m.d6) ∧ W.cell? ⟨(a.add (i * 10)).block, (a.add (i * 10)).off + 8, none⟩ = some (.int .i64 m.f) ∧ W.cell? ⟨(a.add (i * 10)).block, (a.add (i * 10)).off + 9, none⟩ = some (.int .i64 m.t) :=
  ⟨h i m hi 0 _ rfl, h i m hi 1 _ rfl, h i m hi 2 _ rfl, h i m hi 3 _ rfl, h i m hi 4 _ rfl, h i m hi 5 _ rfl, h i m hi 6 _ rfl, h i m hi 7 _ rfl, h i m hi 8 _ rfl, h i m hi 9 _ rfl⟩
/-- one of them is silent -/
def anyS (ms : List MuteD) (n : Int) : Bool := ms.any fun m => sil m n
/-- a slice of mutes -/
def Mutes (W : World) (s : Value) (ms : List MuteD) : Prop := (s = .slice none 0 0 ∧ ms = []) ∨ ∃ a cap, s = .slice (some a) ms.length cap ∧ (0 < ms.length → a.block < W.heap.size) ∧ ms.length ≤ cap ∧ cap ≤ maxLen ∧ MAt W a ms

set_option maxRecDepth 100000 in
set_option maxHeartbeats 1000000 in
theorem any_some (ms : List MuteD) (n : Int) (a : Addr) (cap : Nat) (w : World) (hb0 : 0 < ms.length → a.block < w.heap.size) (hc : ms.length ≤ cap) (hm : cap ≤ maxLen) (hM : MAt w a ms) :
    Calls Try.prog 38 #[.int .i64 n, .slice (some a) ms.length cap] w (TellsB (anyS ms n) w) := by
  go_enter Try.func38, Try.ntmps38
  go_wp2
  go_loopw [9] (fun v wr => ∃ i : Nat, v = .int .i64 i ∧ i ≤ ms.length ∧ Below w.heap.size w wr ∧ Hid (anyS (ms.take i) n = false)) (fun v _ => ms.length - (intOf v).toNat)
  · exact ⟨0, rfl, by omega, Below.refl _ _, Lib.hid rfl⟩
  obtain ⟨i, rfl, hi, hB, hno⟩ := hrel
  by_cases hlt : i < ms.length
  · have hb := hb0 (by omega)
    obtain ⟨m, hm1⟩ : ∃ m, ms[i]? = some m := ⟨_, List.getElem?_eq_getElem hlt⟩
    obtain ⟨c0, c1, c2, c3, c4, c5, c6, c7, c8, c9⟩ := (hM.below hB hb).at hm1
    have HM1 := Lib.hid hm1
    clear hm1
    go_wp2_with fail
    refine (silent_any m n _).mono ?_
    clear c0 c1 c2 c3 c4 c5 c6 c7 c8 c9
    rintro e w1 ⟨rfl, hb1⟩
    have hB1 : Below w.heap.size w w1 := (hB.alloc hB.size _).trans (hb1.mono (by have := hB.size; simp; omega))
    clear hb1
    rcases Bool.eq_false_or_eq_true (sil m n) with t1 | t1
    · have e : anyS ms n = true := List.any_eq_true.2 ⟨m, List.mem_of_getElem? HM1.out, t1⟩
      go_wp2_with fail
      go_ret
      exact ⟨ret_bool e.symm, hB1⟩
    · have e : anyS (ms.take (i + 1)) n = false := by
        have e0 := hno.out
        unfold anyS at e0 ⊢
        rw [List.take_add_one, HM1.out, List.any_append, e0]
        simp [t1]
      have hi1 : (i : Int) < 9223372036854775807 := by unfold maxLen at hm; omega
      go_wp2_with fail
      exact ⟨⟨i + 1, by simp, by omega, hB1, Lib.hid e⟩, by simp [intOf]; omega⟩
  · have : i = ms.length := by omega
    subst this
    go_wp2_with fail
    go_ret
    have e := hno.out
    rw [List.take_length] at e
    exact ⟨ret_bool e.symm, hB⟩

theorem any_none (n : Int) (w : World) : Calls Try.prog 38 #[.int .i64 n, .slice none 0 0] w (TellsB (anyS [] n) w) := by
  go_enter Try.func38, Try.ntmps38
  go_wp2
  go_loopw [9] (fun v wr => v = .int .i64 0 ∧ wr = w) (fun _ _ => 0)
  · exact ⟨rfl, rfl⟩
  obtain ⟨rfl, rfl⟩ := hrel
  go_wp2
  go_ret
  exact ⟨rfl, Below.refl _ _⟩

theorem any_any {s : Value} {ms : List MuteD} {w : World} (h : Mutes w s ms) (n : Int) : Calls Try.prog 38 #[.int .i64 n, s] w (TellsB (anyS ms n) w) := by
  rcases h with ⟨rfl, rfl⟩ | ⟨a, cap, rfl, h1, h2, h3, h4⟩
  · exact any_none n w
  · exact any_some ms n a cap w h1 h2 h3 h4

end Go.Proofs.Ytajflljemfgkiaa
