/-
  errors.Is at an error of lex's make and the fault's own number: true; what was there stays as it was.
-/
import Derived.Test.YtlkedogplmnpkaaDoorLexA
import Derived.LaidEql
import Derived.Lib.IfaceEq
import Derived.Stop.Asserts
import Derived.RowKitTokens
namespace Go.Proofs.YtlkedogplmnpkaaDoor
open Go.RowKit Go.Extern.Stop Go.Stop Go.Extern

theorem unwrap_wrong (p c : Int) (w : World) :
    Calls Tryd.prog 99 #[.agg #[.int .i64 p, .int .i64 c]] w fun e w' => e = .returned (.iface 59 (.agg #[.int .i64 p, .int .i64 c])) ∧ Below w.heap.size w w' := by
  go_enter Tryd.func99, Tryd.ntmps99
  go_wp2
  go_ret
  exact ⟨rfl, (Below.refl _ _).alloc (Nat.le_refl _) _⟩
theorem unwrap_fault (p c : Int) (w : World) :
    Calls Tryd.prog 97 #[.agg #[.int .i64 p, .int .i64 c]] w fun e w' => e = .returned (.iface 38 (.int .i64 c)) ∧ Below w.heap.size w w' := by
  go_enter Tryd.func97, Tryd.ntmps97
  go_wp2
  go_ret
  exact ⟨rfl, (Below.refl _ _).alloc (Nat.le_refl _) _⟩

theorem is_typeOf (v : Value) (w : World) : (ReflectliteType.typeOf #[.iface 38 v]).run Tryd.prog w = .ok (.iface 66 (.agg #[.pointer (some ⟨9, 38, none⟩)])) w := by kernel_rfl
def cmpEntry : Array Value → Sem Value := ReflectliteType.method fun t => do Rtype.noPackHeld "Comparable" t; pure (.bool (← typeInfo t).comparable)
theorem is_comparable (w : World) : (cmpEntry #[.agg #[.pointer (some ⟨9, 38, none⟩)]]).run Tryd.prog w = .ok (.bool true) w := by kernel_rfl
theorem is_methodComparable (v : Value) (w : World) : (Go.method 265 66 v "Comparable").run Tryd.prog w = .ok (103, v) w := by kernel_rfl
theorem is_comp : (Tryd.prog.info? 38).map (·.comparable) = some true := by kernel_rfl
theorem noIs_wrong (v : Value) (xT : TypeId) (w : World) : (Instr.typeAssert (.iface 61 v) xT 68 true).run Tryd.prog w = .ok (.tuple #[.nilIface, .bool false]) w := run_typeAssert_lacksB Tryd.underlying68 (by kernel_rfl) (by kernel_rfl) v xT w
theorem noIs_fault (v : Value) (xT : TypeId) (w : World) : (Instr.typeAssert (.iface 59 v) xT 68 true).run Tryd.prog w = .ok (.tuple #[.nilIface, .bool false]) w := run_typeAssert_lacksB Tryd.underlying68 (by kernel_rfl) (by kernel_rfl) v xT w
theorem hasUnwrap_wrong (v : Value) (xT : TypeId) (w : World) : (Instr.typeAssert (.iface 61 v) xT 71 true).run Tryd.prog w = .ok (.tuple #[.iface 61 v, .bool true]) w := run_typeAssert_hasB Tryd.underlying71 (by kernel_rfl) v xT w
theorem hasUnwrap_fault (v : Value) (xT : TypeId) (w : World) : (Instr.typeAssert (.iface 59 v) xT 71 true).run Tryd.prog w = .ok (.tuple #[.iface 59 v, .bool true]) w := run_typeAssert_hasB Tryd.underlying71 (by kernel_rfl) v xT w
theorem methodUnwrap_wrong (v : Value) (w : World) : (Go.method 265 61 v "Unwrap").run Tryd.prog w = .ok (99, v) w := by kernel_rfl
theorem methodUnwrap_fault (v : Value) (w : World) : (Go.method 265 59 v "Unwrap").run Tryd.prog w = .ok (97, v) w := by kernel_rfl

theorem is_below (p c : Int) (w : World) :
    Calls Tryd.prog 29 #[.iface 61 (.agg #[.int .i64 p, .int .i64 c]), .iface 38 (.int .i64 c), .bool true] w fun e w' => e = .returned (.bool true) ∧ Below w.heap.size w w' := by
  have n1 := noIs_wrong
  have n2 := noIs_fault
  have u1 := hasUnwrap_wrong
  have u2 := hasUnwrap_fault
  have m1 := methodUnwrap_wrong
  have m2 := methodUnwrap_fault
  have e1 := fun w : World => run_eql_iface_types (P := Tryd.prog) 61 38 (.agg #[.int .i64 p, .int .i64 c]) (.int .i64 c) Tryd.underlying30 (by decide) w
  have e2 := fun w : World => run_eql_iface_types (P := Tryd.prog) 59 38 (.agg #[.int .i64 p, .int .i64 c]) (.int .i64 c) Tryd.underlying30 (by decide) w
  have e3 := fun w : World => Lib.run_eql_iface_int (P := Tryd.prog) (k := .i64) w c c Tryd.underlying30 is_comp Tryd.underlying38
  simp only [beq_self_eq_true] at e3
  go_enter Tryd.func29, Tryd.ntmps29
  go_wp2
  refine wp_loop_rounds 3 ?_
  rw [rounds_succ]
  go_wp2_with (go_at_call 99; refine (unwrap_wrong _ _ _).mono ?_; rintro e w1 ⟨rfl, hb1⟩)
  rw [rounds_succ]
  go_wp2_with (go_at_call 97; refine (unwrap_fault _ _ _).mono ?_; rintro e w2 ⟨rfl, hb2⟩)
  rw [rounds_succ]
  go_wp2
  go_ret
  exact ⟨rfl, hb1.trans (hb2.mono hb1.size)⟩

/-- errors.Is at such an error and its own number. -/
theorem errorsIs_calls (p c : Int) (w : World) :
    Calls Tryd.prog 14 #[.iface 61 (.agg #[.int .i64 p, .int .i64 c]), .iface 38 (.int .i64 c)] w fun e w' => e = .returned (.bool true) ∧ Below w.heap.size w w' := by
  have h8 := @run_callFunc_extern Tryd.prog 28 _ ReflectliteType.typeOf Tryd.func28 (by kernel_rfl) (by kernel_rfl) (by kernel_rfl) (by kernel_rfl)
  have h32 := @run_callFunc_extern Tryd.prog 103 _ cmpEntry Tryd.func103 (by kernel_rfl) (by kernel_rfl) (by kernel_rfl) (by kernel_rfl)
  have tT := is_typeOf
  have cT := is_comparable
  have mR := is_methodComparable
  go_enter Tryd.func14, Tryd.ntmps14
  go_wp2_with (go_at_call 29; refine (is_below _ _ _).mono ?_; rintro e w1 ⟨rfl, hb1⟩)
  go_ret
  exact ⟨rfl, hb1⟩
end Go.Proofs.YtlkedogplmnpkaaDoor
