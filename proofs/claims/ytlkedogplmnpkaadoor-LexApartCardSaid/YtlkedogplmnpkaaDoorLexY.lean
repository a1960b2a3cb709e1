/- 
  The law LexApart, walked: true for any source and any blanks; what was there stays as it was.
-/
import Derived.Test.YtlkedogplmnpkaaDoorLexK
import Derived.Test.YtlkedogplmnpkaaDoorLexU
import Derived.BigQuiet
import Derived.Deep.RegionWith
namespace Go.Proofs.YtlkedogplmnpkaaDoor
open Go.RowKit

def gapBytes (k : Nat) : ByteArray := ⟨(Lx.gap k).toArray⟩
theorem gapBytes_data (k : Nat) : (gapBytes k).data.toList = Lx.gap k := by simp [gapBytes]

theorem blanks_calls (k : Nat) (hk : k < 256) (w : World) :
    Calls Tryd.prog 13 #[.int .u8 (k : Int)] w fun e w' => e = .returned (.string (gapBytes k)) ∧ Below w.heap.size w w' := by
  have hb : ∀ o, Below w.heap.size w (w.alloc o) := fun o => (Below.refl _ _).alloc (Nat.le_refl _) o
  have h6 : k % 6 = 0 ∨ k % 6 = 1 ∨ k % 6 = 2 ∨ k % 6 = 3 ∨ k % 6 = 4 ∨ k % 6 = 5 := by omega
  rcases h6 with h | h | h | h | h | h
  · have hi : (k : Int) % 6 = 0 := by omega
    have hg : Hid (gapBytes k = _) := Lib.hid (by unfold gapBytes Lx.gap; rw [h])
    go_enter Tryd.func13, Tryd.ntmps13
    go_wp2
    go_ret
    exact ⟨by rw [hg.out]; rfl, hb _⟩
  · have hi : (k : Int) % 6 = 1 := by omega
    have hg : Hid (gapBytes k = _) := Lib.hid (by unfold gapBytes Lx.gap; rw [h])
    go_enter Tryd.func13, Tryd.ntmps13
    go_wp2
    go_ret
    exact ⟨by rw [hg.out]; rfl, hb _⟩
  · have hi : (k : Int) % 6 = 2 := by omega
    have hg : Hid (gapBytes k = _) := Lib.hid (by unfold gapBytes Lx.gap; rw [h])
    go_enter Tryd.func13, Tryd.ntmps13
    go_wp2
    go_ret
    exact ⟨by rw [hg.out]; rfl, hb _⟩
  · have hi : (k : Int) % 6 = 3 := by omega
    have hg : Hid (gapBytes k = _) := Lib.hid (by unfold gapBytes Lx.gap; rw [h])
    go_enter Tryd.func13, Tryd.ntmps13
    go_wp2
    go_ret
    exact ⟨by rw [hg.out]; rfl, hb _⟩
  · have hi : (k : Int) % 6 = 4 := by omega
    have hg : Hid (gapBytes k = _) := Lib.hid (by unfold gapBytes Lx.gap; rw [h])
    go_enter Tryd.func13, Tryd.ntmps13
    go_wp2
    go_ret
    exact ⟨by rw [hg.out]; rfl, hb _⟩
  · have hi : (k : Int) % 6 = 5 := by omega
    have hg : Hid (gapBytes k = _) := Lib.hid (by unfold gapBytes Lx.gap; rw [h])
    go_enter Tryd.func13, Tryd.ntmps13
    go_wp2
    go_ret
    exact ⟨by rw [hg.out]; rfl, hb _⟩
theorem alike_len : ∀ {a b : List Lx.T}, Lx.Alike a b → a.length = b.length
  | [], [], _ => rfl
  | _ :: a, _ :: b, h => by have := alike_len (a := a) (b := b) h.2.2.2; simp [this]
  | [], _ :: _, h => h.elim
  | _ :: _, [], h => h.elim
theorem alike_at : ∀ {a b : List Lx.T}, Lx.Alike a b → ∀ j (ha : j < a.length) (hb : j < b.length), a[j].kind = b[j].kind ∧ a[j].text = b[j].text ∧ a[j].int = b[j].int
  | _ :: _, _ :: _, h, 0, _, _ => ⟨h.1, h.2.1, h.2.2.1⟩
  | _ :: a, _ :: b, h, j + 1, ha, hb => alike_at (a := a) (b := b) h.2.2.2 j (by simpa using ha) (by simpa using hb)
  | [], _, _, _, ha, _ => absurd ha (by simp)
  | _ :: _, [], h, _, _, _ => h.elim
theorem rise_at : ∀ {q : Nat} {a : List Lx.T}, Lx.Rise q a → ∀ j (ha : j + 1 < a.length), a[j].pos < a[j + 1].pos
  | _, [_], _, _, ha => absurd ha (by simp)
  | _, _ :: _ :: _, h, 0, _ => h.2.1
  | _, _ :: b :: r, h, j + 1, ha => rise_at (a := b :: r) h.2 j (by simpa using ha)
  | _, [], _, _, ha => absurd ha (by simp)
theorem cellsOf_len : ∀ l : List Lx.T, (cellsOf l).length = l.length * 4
  | [] => rfl
  | t :: l => by have := cellsOf_len l; simp [cellsOf, tokCells] at this ⊢; omega
theorem cellsOf_at : ∀ (l : List Lx.T) (j : Nat) (hj : j < l.length) (i : Nat) (_ : i < 4), (cellsOf l)[j * 4 + i]? = (tokCells l[j])[i]?
  | t :: l, 0, _, i, hi => by
    show (tokCells t ++ cellsOf l)[0 * 4 + i]? = _
    rw [List.getElem?_append_left (by simp [tokCells]; omega), Nat.zero_mul, Nat.zero_add]; rfl
  | t :: l, j + 1, hj, i, hi => by
    show (tokCells t ++ cellsOf l)[(j + 1) * 4 + i]? = _
    rw [List.getElem?_append_right (by simp [tokCells]; omega)]
    have := cellsOf_at l j (by simpa using hj) i hi
    have e : (j + 1) * 4 + i - (tokCells t).length = j * 4 + i := by simp [tokCells]; omega
    rw [e, this]; rfl
  | [], _, hj, _, _ => absurd hj (by simp)
/-- The four cells of a token in a row. -/
theorem row_cells {w w' : World} {base g n c : Nat} {ts : List Lx.T} (ho : w.ownsRow base 34 4 (.slice (some ⟨g, 0, none⟩) n c) n (cellsOf ts)) (hn : ts.length = n) (hb : Below w.heap.size w w') (hg : g < w.heap.size) (j : Nat) (hj : j < ts.length) :
    w'.cell? ⟨g, j * 4, none⟩ = some (.int .u8 ts[j].kind) ∧ w'.cell? ⟨g, j * 4 + 1, none⟩ = some (.string ⟨ts[j].text.toArray⟩) ∧ w'.cell? ⟨g, j * 4 + 2, none⟩ = some (.int .i64 ts[j].int) ∧ w'.cell? ⟨g, j * 4 + 3, none⟩ = some (.int .i64 ts[j].pos) := by
  have h : ∀ i, i < 4 → w'.cell? ⟨g, j * 4 + i, none⟩ = (tokCells ts[j])[i]? := fun i hi =>
    (hb.cell (p := ⟨g, j * 4 + i, none⟩) hg).trans ((World.ownsRow.cellAt ho (j * 4 + i) (by omega)).trans (cellsOf_at ts j hj i hi))
  exact ⟨h 0 (by decide), h 1 (by decide), h 2 (by decide), h 3 (by decide)⟩
end Go.Proofs.YtlkedogplmnpkaaDoor
