/-
  errors.Is at an error of lex's make and the fault's own number: true; what was there stays as it was.
-/
import Derived.Test.YtlkedogplmnpkaaGreatDoorLexA
import Derived.LaidEql
import Derived.Lib.IfaceEq
import Derived.Stop.Asserts
import Derived.RowKitTokens
namespace Go.Proofs.YtlkedogplmnpkaaGreatDoor
open Go.RowKit Go.Extern.Stop Go.Stop Go.Extern

theorem unwrap_wrong (p c : Int) (w : World) :
    Calls Tryz.prog 112 #[.agg #[.int .i64 p, .int .i64 c]] w fun e w' => e = .returned (.iface 30 (.agg #[.int .i64 p, .int .i64 c])) ∧ Below w.heap.size w w' := by
  go_enter Tryz.func112, Tryz.ntmps112
  go_wp2
  go_ret
  exact ⟨rfl, (Below.refl _ _).alloc (Nat.le_refl _) _⟩
theorem unwrap_fault (p c : Int) (w : World) :
    Calls Tryz.prog 110 #[.agg #[.int .i64 p, .int .i64 c]] w fun e w' => e = .returned (.iface 28 (.int .i64 c)) ∧ Below w.heap.size w w' := by
  go_enter Tryz.func110, Tryz.ntmps110
  go_wp2
  go_ret
  exact ⟨rfl, (Below.refl _ _).alloc (Nat.le_refl _) _⟩

theorem is_typeOf (v : Value) (w : World) : (ReflectliteType.typeOf #[.iface 28 v]).run Tryz.prog w = .ok (.iface 83 (.agg #[.pointer (some ⟨10, 28, none⟩)])) w := by kernel_rfl
def cmpEntry : Array Value → Sem Value := ReflectliteType.method fun t => do Rtype.noPackHeld "Comparable" t; pure (.bool (← typeInfo t).comparable)
theorem is_comparable (w : World) : (cmpEntry #[.agg #[.pointer (some ⟨10, 28, none⟩)]]).run Tryz.prog w = .ok (.bool true) w := by kernel_rfl
theorem is_methodComparable (v : Value) (w : World) : (Go.method 285 83 v "Comparable").run Tryz.prog w = .ok (118, v) w := by kernel_rfl
theorem is_comp : (Tryz.prog.info? 28).map (·.comparable) = some true := by kernel_rfl
theorem noIs_wrong (v : Value) (xT : TypeId) (w : World) : (Instr.typeAssert (.iface 63 v) xT 85 true).run Tryz.prog w = .ok (.tuple #[.nilIface, .bool false]) w := run_typeAssert_lacksB Tryz.underlying85 (by kernel_rfl) (by kernel_rfl) v xT w
theorem noIs_fault (v : Value) (xT : TypeId) (w : World) : (Instr.typeAssert (.iface 30 v) xT 85 true).run Tryz.prog w = .ok (.tuple #[.nilIface, .bool false]) w := run_typeAssert_lacksB Tryz.underlying85 (by kernel_rfl) (by kernel_rfl) v xT w
theorem hasUnwrap_wrong (v : Value) (xT : TypeId) (w : World) : (Instr.typeAssert (.iface 63 v) xT 88 true).run Tryz.prog w = .ok (.tuple #[.iface 63 v, .bool true]) w := run_typeAssert_hasB Tryz.underlying88 (by kernel_rfl) v xT w
theorem hasUnwrap_fault (v : Value) (xT : TypeId) (w : World) : (Instr.typeAssert (.iface 30 v) xT 88 true).run Tryz.prog w = .ok (.tuple #[.iface 30 v, .bool true]) w := run_typeAssert_hasB Tryz.underlying88 (by kernel_rfl) v xT w
theorem methodUnwrap_wrong (v : Value) (w : World) : (Go.method 285 63 v "Unwrap").run Tryz.prog w = .ok (112, v) w := by kernel_rfl
theorem methodUnwrap_fault (v : Value) (w : World) : (Go.method 285 30 v "Unwrap").run Tryz.prog w = .ok (110, v) w := by kernel_rfl

theorem is_below (p c : Int) (w : World) :
    Calls Tryz.prog 23 #[.iface 63 (.agg #[.int .i64 p, .int .i64 c]), .iface 28 (.int .i64 c), .bool true] w fun e w' => e = .returned (.bool true) ∧ Below w.heap.size w w' := by
  have n1 := noIs_wrong
  have n2 := noIs_fault
  have u1 := hasUnwrap_wrong
  have u2 := hasUnwrap_fault
  have m1 := methodUnwrap_wrong
  have m2 := methodUnwrap_fault
  have e1 := fun w : World => run_eql_iface_types (P := Tryz.prog) 63 28 (.agg #[.int .i64 p, .int .i64 c]) (.int .i64 c) Tryz.underlying25 (by decide) w
  have e2 := fun w : World => run_eql_iface_types (P := Tryz.prog) 30 28 (.agg #[.int .i64 p, .int .i64 c]) (.int .i64 c) Tryz.underlying25 (by decide) w
  have e3 := fun w : World => Lib.run_eql_iface_int (P := Tryz.prog) (k := .i64) w c c Tryz.underlying25 is_comp Tryz.underlying28
  simp only [beq_self_eq_true] at e3
  go_enter Tryz.func23, Tryz.ntmps23
  go_wp2
  refine wp_loop_rounds 3 ?_
  rw [rounds_succ]
  go_wp2_with (go_at_call 112; refine (unwrap_wrong _ _ _).mono ?_; rintro e w1 ⟨rfl, hb1⟩)
  rw [rounds_succ]
  go_wp2_with (go_at_call 110; refine (unwrap_fault _ _ _).mono ?_; rintro e w2 ⟨rfl, hb2⟩)
  rw [rounds_succ]
  go_wp2
  go_ret
  exact ⟨rfl, hb1.trans (hb2.mono hb1.size)⟩

/-- errors.Is at such an error and its own number. -/
theorem errorsIs_calls (p c : Int) (w : World) :
    Calls Tryz.prog 11 #[.iface 63 (.agg #[.int .i64 p, .int .i64 c]), .iface 28 (.int .i64 c)] w fun e w' => e = .returned (.bool true) ∧ Below w.heap.size w w' := by
  have h8 := @run_callFunc_extern Tryz.prog 22 _ ReflectliteType.typeOf Tryz.func22 (by kernel_rfl) (by kernel_rfl) (by kernel_rfl) (by kernel_rfl)
  have h32 := @run_callFunc_extern Tryz.prog 118 _ cmpEntry Tryz.func118 (by kernel_rfl) (by kernel_rfl) (by kernel_rfl) (by kernel_rfl)
  have tT := is_typeOf
  have cT := is_comparable
  have mR := is_methodComparable
  go_enter Tryz.func11, Tryz.ntmps11
  go_wp2_with (go_at_call 23; refine (is_below _ _ _).mono ?_; rintro e w1 ⟨rfl, hb1⟩)
  go_ret
  exact ⟨rfl, hb1⟩
end Go.Proofs.YtlkedogplmnpkaaGreatDoor
