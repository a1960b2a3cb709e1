/- 
  errors.As at an error of lex's make, the target a Fault's place: true; the place then holds the fault; what was there stays as it was.
-/
import Derived.Test.YtlkedogplmnpkaaGreatDoorLexI
namespace Go.Proofs.YtlkedogplmnpkaaGreatDoor
open Go.RowKit Go.Extern.Stop Go.Stop Go.Extern

abbrev tPtr : TypeId := 51
abbrev tFault : TypeId := 30
abbrev tWrong : TypeId := 63
abbrev tR : TypeId := 83

theorem as_valueOfPtr (t : Addr) (w : World) : (ReflectliteValue.unpack (.iface 51 (.pointer (some t)))).run Tryz.prog w
    = .ok (.agg #[.pointer (some ⟨10, 51, none⟩), .pointer (some ⟨w.heap.size, 0, none⟩), .int .u64 150]) (w.alloc (.cells #[.pointer (some t)] 51)) := by kernel_rfl
theorem as_typePtr (a : Addr) (w : World) : (ReflectliteValue.methodAny (ReflectliteValue.valueError "reflectlite.Value.Type" 0) (fun t _ _ _ => ReflectliteType.toType t) #[.agg #[.pointer (some ⟨10, 51, none⟩), .pointer (some a), .int .u64 150]]).run Tryz.prog w
    = .ok (.iface 83 (.agg #[.pointer (some ⟨10, 51, none⟩)])) w := by kernel_rfl
theorem as_methodKind (h : Value) (w : World) : (Go.method 285 83 (.agg #[h]) "Kind").run Tryz.prog w = .ok (105, h) w := by kernel_rfl
theorem as_kindPtr (w : World) : ((ReflectliteType.abiMethod fun t => (fun a : Nat => Value.int IntKind.u8 (a : Int)) <$> Rtype.kind t) #[.pointer (some ⟨10, 51, none⟩)]).run Tryz.prog w = .ok (.int .u8 22) w := by kernel_rfl
theorem as_kindFault (w : World) : ((ReflectliteType.abiMethod fun t => (fun a : Nat => Value.int IntKind.u8 (a : Int)) <$> Rtype.kind t) #[.pointer (some ⟨10, 30, none⟩)]).run Tryz.prog w = .ok (.int .u8 25) w := by kernel_rfl
theorem as_rlm (z : Sem Value) (f : TypeId → Addr → Nat → Nat → Sem Value) (v : Value) :
    ReflectliteValue.method z f #[v] = (do match ← ReflectliteValue.parts v with | none => z | some (t, a, fl) => f t a fl (fl % 32)) := rfl
theorem as_partsPtr (a : Addr) (w : World) : (ReflectliteValue.parts (.agg #[.pointer (some ⟨10, 51, none⟩), .pointer (some a), .int .u64 150])).run Tryz.prog w = .ok (some (51, a, 150)) w := by kernel_rfl
theorem as_isNil (a p : Addr) (W : World) (ha : W.cell? a = some (.pointer (some p))) :
    (ReflectliteValue.method (ReflectliteValue.valueError "reflectlite.Value.IsNil" 0) ReflectliteValue.isNil #[.agg #[.pointer (some ⟨10, 51, none⟩), .pointer (some a), .int .u64 150]]).run Tryz.prog W = .ok (.bool false) W := by
  rw [as_rlm]
  simp only [Sem.run_bind, as_partsPtr, Result.andThen]
  simp [ReflectliteValue.isNil, loadVar, isAgg, underlying, Tryz.underlying51, ha, Result.andThen]
theorem as_methodElem (h : Value) (w : World) : (Go.method 285 83 (.agg #[h]) "Elem").run Tryz.prog w = .ok (119, .agg #[h]) w := by kernel_rfl
theorem as_methodImplements (h : Value) (w : World) : (Go.method 285 83 (.agg #[h]) "Implements").run Tryz.prog w = .ok (120, .agg #[h]) w := by kernel_rfl
theorem as_methodAssignableTo (h : Value) (w : World) : (Go.method 285 83 (.agg #[h]) "AssignableTo").run Tryz.prog w = .ok (117, .agg #[h]) w := by kernel_rfl
theorem as_elem (w : World) : (ReflectliteType.method ReflectliteType.elem #[.agg #[.pointer (some ⟨10, 51, none⟩)]]).run Tryz.prog w = .ok (.iface 83 (.agg #[.pointer (some ⟨10, 30, none⟩)])) w := by kernel_rfl
theorem as_implements (w : World) : (ReflectliteType.relation "Implements" ReflectliteType.implements_ #[.agg #[.pointer (some ⟨10, 30, none⟩)], .iface 83 (.agg #[.pointer (some ⟨10, 25, none⟩)])]).run Tryz.prog w = .ok (.bool true) w := by kernel_rfl
theorem as_typeOfWrong (v : Value) (w : World) : (ReflectliteType.typeOf #[.iface 63 v]).run Tryz.prog w = .ok (.iface 83 (.agg #[.pointer (some ⟨10, 63, none⟩)])) w := by kernel_rfl
theorem as_typeOfFault (v : Value) (w : World) : (ReflectliteType.typeOf #[.iface 30 v]).run Tryz.prog w = .ok (.iface 83 (.agg #[.pointer (some ⟨10, 30, none⟩)])) w := by kernel_rfl
theorem as_assignWrong (w : World) : (ReflectliteType.relation "AssignableTo" ReflectliteType.assignableTo #[.agg #[.pointer (some ⟨10, 63, none⟩)], .iface 83 (.agg #[.pointer (some ⟨10, 30, none⟩)])]).run Tryz.prog w = .ok (.bool false) w := by kernel_rfl
theorem as_assignFault (w : World) : (ReflectliteType.relation "AssignableTo" ReflectliteType.assignableTo #[.agg #[.pointer (some ⟨10, 30, none⟩)], .iface 83 (.agg #[.pointer (some ⟨10, 30, none⟩)])]).run Tryz.prog w = .ok (.bool true) w := by kernel_rfl
theorem as_valueOfFault (p c : Int) (w : World) : (ReflectliteValue.unpack (.iface 30 (.agg #[.int .i64 p, .int .i64 c]))).run Tryz.prog w
    = .ok (.agg #[.pointer (some ⟨10, 30, none⟩), .pointer (some ⟨w.heap.size, 0, none⟩), .int .u64 153]) (w.alloc (.cells #[.int .i64 p, .int .i64 c] 30)) := by kernel_rfl
theorem as_elemOf (w : World) : (Rtype.elem? 51).run Tryz.prog w = .ok (some 30) w := by kernel_rfl
theorem as_mkFault (p : Addr) (w : World) : (ReflectliteValue.mk 30 p ReflectliteValue.flagAddr).run Tryz.prog w = .ok (.agg #[.pointer (some ⟨10, 30, none⟩), .pointer (some p), .int .u64 409]) w := by kernel_rfl
theorem as_elemV (a p : Addr) (W : World) (ha : W.cell? a = some (.pointer (some p))) :
    (ReflectliteValue.method (ReflectliteValue.valueError "reflectlite.Value.Elem" 0) ReflectliteValue.elem #[.agg #[.pointer (some ⟨10, 51, none⟩), .pointer (some a), .int .u64 150]]).run Tryz.prog W
      = .ok (.agg #[.pointer (some ⟨10, 30, none⟩), .pointer (some p), .int .u64 409]) W := by
  rw [as_rlm]
  simp only [Sem.run_bind, as_partsPtr, Result.andThen]
  simp [ReflectliteValue.elem, loadVar, isAgg, underlying, Tryz.underlying51, ha, Result.andThen, as_elemOf, as_mkFault]
theorem as_partsTarget (a : Addr) (w : World) : (ReflectliteValue.parts (.agg #[.pointer (some ⟨10, 30, none⟩), .pointer (some a), .int .u64 409])).run Tryz.prog w = .ok (some (30, a, 409)) w := by kernel_rfl
theorem as_partsSource (a : Addr) (w : World) : (ReflectliteValue.parts (.agg #[.pointer (some ⟨10, 30, none⟩), .pointer (some a), .int .u64 153])).run Tryz.prog w = .ok (some (30, a, 153)) w := by kernel_rfl
theorem as_direct (w : World) : (Rtype.directlyAssignable 30 30).run Tryz.prog w = .ok true w := by kernel_rfl
theorem as_size (w : World) : (sizeOf 30).run Tryz.prog w = .ok 2 w := by kernel_rfl
theorem as_isAgg (w : World) : (isAgg 30).run Tryz.prog w = .ok true w := by kernel_rfl
theorem noAs_wrong (v : Value) (xT : TypeId) (w : World) : (Instr.typeAssert (.iface 63 v) xT 99 true).run Tryz.prog w = .ok (.tuple #[.nilIface, .bool false]) w := run_typeAssert_lacksB Tryz.underlying99 (by kernel_rfl) (by kernel_rfl) v xT w

theorem as_rls (v x : Value) : ReflectliteValue.set #[v, x] = (do
    let (some (dst, a, fl), some (src, b, _)) := (← ReflectliteValue.parts v, ← ReflectliteValue.parts x)
      | unsupported (.noEntry "extern/(internal/reflectlite.Value).Set.zeroValue")
    if fl / ReflectliteValue.flagAddr % 2 == 0 then unsupported (.noEntry "extern/(internal/reflectlite.Value).Set.unaddressable")
    let val ← loadVar src b
    if ← Rtype.directlyAssignable dst src then storeVar dst a val
    else if ← Rtype.implements dst src then
      if (← Rtype.kind src) == 20 then
        match val with
        | .nilIface => unsupported (.noEntry "extern/reflectlite: a nil value of one interface type handed on as a value of another")
        | _ => storeVar dst a val
      else storeVar dst a (.iface src val)
    else panicString ("reflectlite.Set: value of type " ++ (← Rtype.spelt src) ++ " is not assignable to type " ++ (← Rtype.spelt dst))
    pure (.tuple #[])) := rfl

theorem as_set (g b : Nat) (p c : Int) (o0 o1 : Value) (W : World) (h0 : W.cell? ⟨b, 0, none⟩ = some (.int .i64 p)) (h1 : W.cell? ⟨b, 1, none⟩ = some (.int .i64 c)) (t0 : W.cell? ⟨g, 0, none⟩ = some o0) (t1 : W.cell? ⟨g, 1, none⟩ = some o1) (f0 : W.frozen? ⟨g, 0, none⟩ = false) (f1 : W.frozen? ⟨g, 1, none⟩ = false) :
    (ReflectliteValue.set #[.agg #[.pointer (some ⟨10, 30, none⟩), .pointer (some ⟨g, 0, none⟩), .int .u64 409], .agg #[.pointer (some ⟨10, 30, none⟩), .pointer (some ⟨b, 0, none⟩), .int .u64 153]]).run Tryz.prog W
      = .ok (.tuple #[]) ((W.setCell ⟨g, 0, none⟩ (.int .i64 p)).setCell ⟨g, 1, none⟩ (.int .i64 c)) := by
  rw [as_rls]
  simp only [Sem.run_bind, as_partsTarget, as_partsSource, Result.andThen]
  simp [ReflectliteValue.flagAddr, loadVar, loadCells, loadCellsFrom, Addr.add, h0, h1, Result.andThen, as_direct, storeVar, Value.cells, storeCells]
  rw [run_store Tryz.prog W ⟨g, 0, none⟩ _ _ (by rfl)]
  simp only [t0, f0]
  have e0 : (W.setCell ⟨g, 0, none⟩ (.int .i64 p)).cell? ⟨g, 1, none⟩ = some o1 := (World.cell?_setCell_other _ _ _ _ (by simp)).trans t1
  have e1 : (W.setCell ⟨g, 0, none⟩ (.int .i64 p)).frozen? ⟨g, 1, none⟩ = false := by rw [World.frozen?_setCell]; exact f1
  simp
  rw [run_store Tryz.prog _ ⟨g, 1, none⟩ _ _ (by rfl)]
  simp [e0, e1]

set_option maxHeartbeats 4000000 in
set_option maxRecDepth 100000 in
/-- errors.As at a fault that is wrapped once; the target is a new place. -/
theorem errorsAs_calls (p c : Int) (g : Nat) (o0 o1 : Value) (w : World) (hg : w.cell? ⟨0, 0, none⟩ = some (.iface 83 (.agg #[.pointer (some ⟨10, 25, none⟩)]))) (hgg : 0 < w.heap.size)
    (hgw : g < w.heap.size) (t0 : w.cell? ⟨g, 0, none⟩ = some o0) (t1 : w.cell? ⟨g, 1, none⟩ = some o1) (f0 : w.frozen? ⟨g, 0, none⟩ = false) (f1 : w.frozen? ⟨g, 1, none⟩ = false) :
    Calls Tryz.prog 19 #[.iface 63 (.agg #[.int .i64 p, .int .i64 c]), .iface 51 (.pointer (some ⟨g, 0, none⟩))] w fun e w' => e = .returned (.bool true) ∧ Below g w w' ∧ w'.cell? ⟨g, 0, none⟩ = some (.int .i64 p) ∧ w'.cell? ⟨g, 1, none⟩ = some (.int .i64 c) := by
  have hV := @run_callFunc_extern Tryz.prog 38 _ (fun args => ReflectliteValue.unpack (args.getD 0 (.tuple #[]))) Tryz.func38 (by kernel_rfl) (by kernel_rfl) (by kernel_rfl) (by kernel_rfl)
  have hT := @run_callFunc_extern Tryz.prog 39 _ (ReflectliteValue.methodAny (ReflectliteValue.valueError "reflectlite.Value.Type" 0) (fun t _ _ _ => ReflectliteType.toType t)) Tryz.func39 (by kernel_rfl) (by kernel_rfl) (by kernel_rfl) (by kernel_rfl)
  have hN := @run_callFunc_extern Tryz.prog 40 _ (ReflectliteValue.method (ReflectliteValue.valueError "reflectlite.Value.IsNil" 0) ReflectliteValue.isNil) Tryz.func40 (by kernel_rfl) (by kernel_rfl) (by kernel_rfl) (by kernel_rfl)
  have hK := @run_callFunc_extern Tryz.prog 105 _ (ReflectliteType.abiMethod fun t => do pure (.int .u8 (← Rtype.kind t))) Tryz.func105 (by kernel_rfl) (by kernel_rfl) (by kernel_rfl) (by kernel_rfl)
  have hE := @run_callFunc_extern Tryz.prog 119 _ (ReflectliteType.method ReflectliteType.elem) Tryz.func119 (by kernel_rfl) (by kernel_rfl) (by kernel_rfl) (by kernel_rfl)
  have hI := @run_callFunc_extern Tryz.prog 120 _ (ReflectliteType.relation "Implements" ReflectliteType.implements_) Tryz.func120 (by kernel_rfl) (by kernel_rfl) (by kernel_rfl) (by kernel_rfl)
  have hO := @run_callFunc_extern Tryz.prog 22 _ ReflectliteType.typeOf Tryz.func22 (by kernel_rfl) (by kernel_rfl) (by kernel_rfl) (by kernel_rfl)
  have hA := @run_callFunc_extern Tryz.prog 117 _ (ReflectliteType.relation "AssignableTo" ReflectliteType.assignableTo) Tryz.func117 (by kernel_rfl) (by kernel_rfl) (by kernel_rfl) (by kernel_rfl)
  have hL := @run_callFunc_extern Tryz.prog 54 _ (ReflectliteValue.method (ReflectliteValue.valueError "reflectlite.Value.Elem" 0) ReflectliteValue.elem) Tryz.func54 (by kernel_rfl) (by kernel_rfl) (by kernel_rfl) (by kernel_rfl)
  have hS := @run_callFunc_extern Tryz.prog 55 _ ReflectliteValue.set Tryz.func55 (by kernel_rfl) (by kernel_rfl) (by kernel_rfl) (by kernel_rfl)
  have q1 := as_valueOfPtr
  have q2 := as_typePtr
  have q3 := as_methodKind
  have q4 := as_kindPtr
  have q5 := as_kindFault
  have q6 := as_methodElem
  have q7 := as_methodImplements
  have q8 := as_methodAssignableTo
  have q9 := as_elem
  have q10 := as_implements
  have q11 := as_typeOfWrong
  have q12 := as_typeOfFault
  have q13 := as_assignWrong
  have q14 := as_assignFault
  have q15 := as_valueOfFault
  have q16 := noAs_wrong
  have q17 := hasUnwrap_wrong
  have q18 := methodUnwrap_wrong
  have n8 := as_isNil ⟨w.heap.size, 0, none⟩ ⟨g, 0, none⟩ ((w.alloc (.cells #[.pointer (some ⟨g, 0, none⟩)] 51)).alloc (.cells #[.pointer (some ⟨10, 51, none⟩), .pointer (some ⟨w.heap.size, 0, none⟩), .int .u64 150] 75)) (by simp)
  have hg2 : ((w.alloc (.cells #[.pointer (some ⟨g, 0, none⟩)] 51)).alloc (.cells #[.pointer (some ⟨10, 51, none⟩), .pointer (some ⟨w.heap.size, 0, none⟩), .int .u64 150] 75)).cell? ⟨0, 0, none⟩ = some (.iface 83 (.agg #[.pointer (some ⟨10, 25, none⟩)])) := by
    rw [World.cell?_alloc_lt _ _ ⟨0, 0, none⟩ (by simp), World.cell?_alloc_lt _ _ ⟨0, 0, none⟩ hgg]; exact hg
  go_enter Tryz.func19, Tryz.ntmps19
  go_wp2
  refine wp_loop_rounds 2 ?_
  rw [rounds_succ]
  go_wp2_with (go_at_call 112; refine (unwrap_wrong _ _ _).mono ?_; rintro e w1 ⟨rfl, hb1⟩)
  have hz1 : w.heap.size + 3 ≤ w1.heap.size := by have := hb1.size; simp at this; omega
  have oldc : ∀ b o, b < w.heap.size → w1.cell? ⟨b, o, none⟩ = w.cell? ⟨b, o, none⟩ := by
    intro b o hb
    rw [hb1.cell (p := ⟨b, o, none⟩) (by simp; omega), World.cell?_alloc_lt _ _ ⟨b, o, none⟩ (by simp; omega), World.cell?_alloc_lt _ _ ⟨b, o, none⟩ (by simp; omega), World.cell?_alloc_lt _ _ ⟨b, o, none⟩ hb]
  have oldf : ∀ b o, b < w.heap.size → w1.frozen? ⟨b, o, none⟩ = w.frozen? ⟨b, o, none⟩ := by
    intro b o hb
    rw [hb1.frozen (p := ⟨b, o, none⟩) (by simp; omega), World.frozen?_alloc_old _ _ ⟨b, o, none⟩ (by simp; omega), World.frozen?_alloc_old _ _ ⟨b, o, none⟩ (by simp; omega), World.frozen?_alloc_old _ _ ⟨b, o, none⟩ (Nat.ne_of_lt hb)]
  have hp1 : w1.cell? ⟨w.heap.size, 0, none⟩ = some (.pointer (some ⟨g, 0, none⟩)) := by
    rw [hb1.cell (p := ⟨w.heap.size, 0, none⟩) (by simp; omega), World.cell?_alloc_lt _ _ ⟨w.heap.size, 0, none⟩ (by simp; omega), World.cell?_alloc_lt _ _ ⟨w.heap.size, 0, none⟩ (by simp)]; simp
  have hv0 : w1.cell? ⟨w.heap.size + 1 + 1, 0, none⟩ = some (.pointer (some ⟨10, 51, none⟩)) := by
    rw [hb1.cell (p := ⟨w.heap.size + 1 + 1, 0, none⟩) (by simp), World.cell?_alloc_at _ _ _ _ (by simp)]; rfl
  have hv1 : w1.cell? ⟨w.heap.size + 1 + 1, 1, none⟩ = some (.pointer (some ⟨w.heap.size, 0, none⟩)) := by
    rw [hb1.cell (p := ⟨w.heap.size + 1 + 1, 1, none⟩) (by simp), World.cell?_alloc_at _ _ _ _ (by simp)]; rfl
  have hv2 : w1.cell? ⟨w.heap.size + 1 + 1, 2, none⟩ = some (.int .u64 150) := by
    rw [hb1.cell (p := ⟨w.heap.size + 1 + 1, 2, none⟩) (by simp), World.cell?_alloc_at _ _ _ _ (by simp)]; rfl
  have el := as_elemV ⟨w.heap.size, 0, none⟩ ⟨g, 0, none⟩ w1 hp1
  have st := as_set g w1.heap.size p c o0 o1 (w1.alloc (.cells #[.int .i64 p, .int .i64 c] 30)) (by rw [World.cell?_alloc_at _ _ _ _ (by rfl)]; rfl) (by rw [World.cell?_alloc_at _ _ _ _ (by rfl)]; rfl)
    (by rw [World.cell?_alloc_lt _ _ ⟨g, 0, none⟩ (by simp; omega), oldc g 0 hgw]; exact t0) (by rw [World.cell?_alloc_lt _ _ ⟨g, 1, none⟩ (by simp; omega), oldc g 1 hgw]; exact t1)
    (by rw [World.frozen?_alloc_old _ _ ⟨g, 0, none⟩ (by simp; omega), oldf g 0 hgw]; exact f0) (by rw [World.frozen?_alloc_old _ _ ⟨g, 1, none⟩ (by simp; omega), oldf g 1 hgw]; exact f1)
  have T0 : (w1.alloc (.cells #[.int .i64 p, .int .i64 c] 30)).cell? ⟨g, 0, none⟩ = some o0 := by rw [World.cell?_alloc_lt _ _ ⟨g, 0, none⟩ (by simp; omega), oldc g 0 hgw]; exact t0
  have T1 : (w1.alloc (.cells #[.int .i64 p, .int .i64 c] 30)).cell? ⟨g, 1, none⟩ = some o1 := by rw [World.cell?_alloc_lt _ _ ⟨g, 1, none⟩ (by simp; omega), oldc g 1 hgw]; exact t1
  have B1 : Below g w w1 := ((((Below.refl _ _).alloc (Nat.le_of_lt hgw) _).alloc (by simp; omega) _).alloc (by simp; omega) _).trans (hb1.mono (by simp; omega))
  have HT0 := Lib.hid T0
  have HT1 := Lib.hid T1
  have HB := Lib.hid B1
  clear T0 T1 B1 oldc oldf
  rw [rounds_succ]
  go_wp2
  go_ret
  refine ⟨rfl, ((HB.out.alloc (by omega) _).setCell (Nat.le_refl _) _).setCell (Nat.le_refl _) _, ?_, ?_⟩
  · rw [World.cell?_setCell_other _ _ _ _ (by simp)]
    exact World.cell?_setCell_same _ _ _ HT0.out
  · exact World.cell?_setCell_same _ _ _ ((World.cell?_setCell_other _ _ _ _ (by simp)).trans HT1.out)
end Go.Proofs.YtlkedogplmnpkaaGreatDoor
