/- Facts on the types of the translation. -/
import Derived.Test.YtlofomkhiefbmaaProg
import Derived.KernelRfl
import Derived.Test.YtlofomkhiefbmaaJG
namespace Go.Proofs.Ytlofomkhiefbmaa
theorem mixed : Try.prog.follows .mixedOrders = true := by kernel_rfl
theorem info3 : Try.prog.info? 3 = some Try.t3 := by kernel_rfl
theorem zero3 : Try.t3.zero = some (Value.int .i64 0) := by kernel_rfl
theorem info5 : Try.prog.info? 5 = some Try.t5 := by kernel_rfl
theorem zero5 : Try.t5.zero = some (Value.int .u8 0) := by kernel_rfl
theorem info22 : Try.prog.info? 22 = some Try.t22 := by kernel_rfl
theorem zero22 : Try.t22.zero = some (Value.slice none 0 0) := by kernel_rfl
theorem info39 : Try.prog.info? 39 = some Try.t39 := by kernel_rfl
theorem zero39 : Try.t39.zero = some (Value.slice none 0 0) := by kernel_rfl
theorem info41 : Try.prog.info? 41 = some Try.t41 := by kernel_rfl
theorem zero41 : Try.t41.zero = some (Value.agg #[Value.int .i64 0, Value.int .i64 0]) := by kernel_rfl
theorem info43 : Try.prog.info? 43 = some Try.t43 := by kernel_rfl
theorem zero43 : Try.t43.zero = some (Value.agg #[Value.string ByteArray.empty, Value.bool false]) := by kernel_rfl
theorem info55 : Try.prog.info? 55 = some Try.t55 := by kernel_rfl
theorem zero55 : Try.t55.zero = some (Value.int .i64 0) := by kernel_rfl
theorem info57 : Try.prog.info? 57 = some Try.t57 := by kernel_rfl
theorem zero57 : Try.t57.zero = some (Value.agg #[Value.int .i64 0, Value.slice none 0 0]) := by kernel_rfl
theorem info80 : Try.prog.info? 80 = some Try.t80 := by kernel_rfl
theorem zero80 : Try.t80.zero = some (Value.agg #[Value.pointer none, Value.slice none 0 0]) := by kernel_rfl
theorem info82 : Try.prog.info? 82 = some Try.t82 := by kernel_rfl
theorem zero82 : Try.t82.zero = some (Value.agg #[Value.int .i64 0, Value.int .i64 0, Value.int .i64 0, Value.int .i64 0, Value.slice none 0 0]) := by kernel_rfl
theorem eqT43 (w : World) (a0 : ByteArray) (a1 : Bool) (b0 : ByteArray) (b1 : Bool) : (Op.equal 43 (.agg #[.string a0, .bool a1]) (.agg #[.string b0, .bool b1])).run Try.prog w = .ok (decide ((⟨a0, a1⟩ : Line) = ⟨b0, b1⟩)) w := by
  refine (eqA_of Try.underlying43 Try.stoodInHeld43 (eqf_cons rfl (part1 Try.isAgg9 rfl) (part1 Try.isAgg9 rfl) (eq_str Try.runUnderlying9) (eqf_last rfl (part1 Try.isAgg4 rfl) (part1 Try.isAgg4 rfl) (eq_bool Try.runUnderlying4)))).trans ?_
  simp only [Line.mk.injEq, Bool.decide_and]
end Go.Proofs.Ytlofomkhiefbmaa
