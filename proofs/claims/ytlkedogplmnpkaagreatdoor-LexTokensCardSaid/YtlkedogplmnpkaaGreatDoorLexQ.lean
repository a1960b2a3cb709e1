/- 
  The law's own Told: is an error just this fault: at the errors that lex makes, and at none.
-/
import Derived.Test.YtlkedogplmnpkaaGreatDoorLexM
import Derived.Test.YtlkedogplmnpkaaGreatDoorLexG
namespace Go.Proofs.YtlkedogplmnpkaaGreatDoor
open Go.RowKit

/-- What the library's variable errors.errorType holds. -/
def Han (w : World) : Prop := w.cell? ⟨0, 0, none⟩ = some (.iface 83 (.agg #[.pointer (some ⟨10, 25, none⟩)]))
theorem Han.lt {w : World} (h : Han w) : 0 < w.heap.size := World.block_lt_of_cell? _ _ h
theorem Han.below {w w' : World} (h : Han w) (hb : Below w.heap.size w w') : Han w' := (hb.cell (p := ⟨0, 0, none⟩) h.lt).trans h

theorem told_nil (w : World) (p : Int) :
    Calls Tryz.prog 9 #[.nilIface, .agg #[.int .i64 p, .int .i64 0]] w fun e w' => e = .returned (.bool true) ∧ Below w.heap.size w w' := by
  go_enter Tryz.func9, Tryz.ntmps9
  go_wp2
  go_ret
  exact ⟨rfl, (Below.refl _ _).alloc (Nat.le_refl _) _⟩

set_option maxRecDepth 100000 in
theorem told_wrong (p c : Int) (hc : c ≠ 0) (w : World) (hh : Han w) :
    Calls Tryz.prog 9 #[.iface 63 (.agg #[.int .i64 p, .int .i64 c]), .agg #[.int .i64 p, .int .i64 c]] w fun e w' => e = .returned (.bool true) ∧ Below w.heap.size w w' := by
  have hh2 : Han ((w.alloc (.cells #[.int .i64 p, .int .i64 c] 30)).alloc (.cells #[.int .i64 0, .int .i64 0] 30)) :=
    hh.below (((Below.refl _ _).alloc (Nat.le_refl _) _).alloc (by simp) _)
  have KA := Lib.hid (errorsAs_calls p c (w.heap.size + 1) (.int .i64 0) (.int .i64 0) _ hh2 hh2.lt (by simp) (by rw [World.cell?_alloc_at _ _ _ _ (by simp)]; rfl) (by rw [World.cell?_alloc_at _ _ _ _ (by simp)]; rfl) (by simp) (by simp))
  have KI := Lib.hid (fun w : World => errorsIs_calls p c w)
  have hB : Hid (Below w.heap.size w ((w.alloc (.cells #[.int .i64 p, .int .i64 c] 30)).alloc (.cells #[.int .i64 0, .int .i64 0] 30))) := Lib.hid (((Below.refl _ _).alloc (Nat.le_refl _) _).alloc (by simp) _)
  clear hh hh2
  go_enter Tryz.func9, Tryz.ntmps9
  go_wp2_with (first
    | (go_at_call 19; refine KA.out.mono ?_; rintro e w1 ⟨rfl, hb1, hg0, hg1⟩
       have hf0 : w1.cell? ⟨w.heap.size, 0, none⟩ = some (.int .i64 p) := by rw [hb1.cell (p := ⟨w.heap.size, 0, none⟩) (by simp), World.cell?_alloc_lt _ _ ⟨w.heap.size, 0, none⟩ (by simp)]; simp
       have hf1 : w1.cell? ⟨w.heap.size, 1, none⟩ = some (.int .i64 c) := by rw [hb1.cell (p := ⟨w.heap.size, 1, none⟩) (by simp), World.cell?_alloc_lt _ _ ⟨w.heap.size, 1, none⟩ (by simp)]; simp)
    | (go_at_call 11; refine (KI.out _).mono ?_; rintro e w2 ⟨rfl, hb2⟩))
  go_ret
  have hz := hb1.size
  simp at hz
  exact ⟨rfl, hB.out.trans ((hb1.mono (by omega)).trans (hb2.mono (by omega)))⟩
end Go.Proofs.YtlkedogplmnpkaaGreatDoor
