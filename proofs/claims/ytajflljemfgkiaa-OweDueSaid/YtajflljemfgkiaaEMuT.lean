/- Two mutes compared. -/
import Derived.Test.YtajflljemfgkiaaEMu2
import Derived.Laws.StructEq
import Derived.Laws.Cover2
import Derived.Laws.Tables
namespace Go.Proofs.Ytajflljemfgkiaa
open Mut
theorem days_eq (d : Nat) (b0 b1 b2 b3 b4 b5 b6 : Bool) (w : World) : (Op.equalIn (d + 1 + 1) 44 (.agg #[.bool b0, .bool b1, .bool b2, .bool b3, .bool b4, .bool b5, .bool b6]) (.agg #[.bool b0, .bool b1, .bool b2, .bool b3, .bool b4, .bool b5, .bool b6])).run Try.prog w = .ok true w := by
  have u4 := Try.underlying4
  have a4 := Try.isAgg4
  have z4 := Try.sizeOf4
  rw [Op.equalIn]
  simp only [Sem.run_bind, run_underlying Try.underlying44, Result.andThen_ok]
  simp only [Std.Legacy.Range.forIn_eq_forIn_range', Std.Legacy.Range.size, Nat.sub_zero, Nat.add_sub_cancel, Nat.div_one, List.range'_succ, List.range'_zero, List.forIn_cons, List.forIn_nil]
  go_simp
theorem guard_mute : Try.prog.eqGuardType Try.prog.depth 46 = false := by kernel_rfl
theorem equal_mute (m : MuteD) (w : World) : (Op.equalIn 10000 46 (.agg #[.string m.nm, .bool m.d0, .bool m.d1, .bool m.d2, .bool m.d3, .bool m.d4, .bool m.d5, .bool m.d6, .int .i64 m.f, .int .i64 m.t]) (.agg #[.string m.nm, .bool m.d0, .bool m.d1, .bool m.d2, .bool m.d3, .bool m.d4, .bool m.d5, .bool m.d6, .int .i64 m.f, .int .i64 m.t])).run Try.prog w = .ok true w := by
  have u1 := Try.underlying9
  have a1 := Try.isAgg9
  have z1 := Try.sizeOf9
  have u2 := Try.underlying44
  have a2 := Try.isAgg44
  have z2 := Try.sizeOf44
  have u3 := Try.underlying3
  have a3 := Try.isAgg3
  have z3 := Try.sizeOf3
  have hS : Try.prog.underlying 46 = some (.struct (Try.prog.fieldsOf 46)) := by kernel_rfl
  rw [show (10000 : Nat) = 9997 + 1 + 1 + 1 from rfl, run_equalIn_agg w (9997 + 1 + 1) 46 _ _ hS (by kernel_rfl)]
  simp only [Program.fieldsOf, Try.underlying46]
  have hd := fun w => days_eq 9997 m.d0 m.d1 m.d2 m.d3 m.d4 m.d5 m.d6 w
  go_simp
end Go.Proofs.Ytajflljemfgkiaa
