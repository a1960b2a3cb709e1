/- 
  The plain law of LexLong: the tokens of a row of semicolons, and of a row of blanks; and a row of tokens in memory, cell by cell.
-/
import Derived.Test.YtlkedogplmnpkaaGreatDoorLexU
import Derived.Test.YtlkedogplmnpkaaGreatDoorLexQ
namespace Go.Proofs.YtlkedogplmnpkaaGreatDoor
open Go.RowKit
namespace Lx
theorem skip_semis (m : Nat) : skip false (List.replicate m 59) = 0 := by cases m <;> rfl
theorem tok_semi (r : List UInt8) : tok (59 :: r) = .ok (4, 1, 0) := by
  have h1 : letter ((59 :: r).headD 0) = false := by show letter 59 = false; decide
  have h2 : digit ((59 :: r).headD 0) = false := by show digit 59 = false; decide
  rw [tok_sign h1 h2]
  rfl
/-- The tokens of a row of semicolons. -/
def semis (p m : Nat) : List T := (List.range m).map (fun i => ⟨4, [59], 0, p + i⟩) ++ [⟨0, [], 0, p + m⟩]
theorem semis_succ (p m : Nat) : semis p (m + 1) = ⟨4, [59], 0, p⟩ :: semis (p + 1) m := by
  unfold semis
  rw [List.range_succ_eq_map, List.map_cons, List.map_map, List.cons_append]
  congr 2
  · apply List.map_congr_left; intro i _; simp; omega
  · simp; omega
theorem toks_semis : ∀ (m f p k : Nat), m + 1 ≤ f → k + m ≤ 16383 → toks f (List.replicate m 59) p k = .ok (semis p m)
  | 0, f + 1, p, k, _, _ => rfl
  | m + 1, f + 1, p, k, hf, hk => by
    have hne : List.replicate (m + 1) (59 : UInt8) ≠ [] := by simp
    have ht : tok (List.replicate (m + 1) 59) = .ok (4, 1, 0) := tok_semi _
    have hm := toks_more hne ht f p k (by omega) []
    have hd : (List.replicate (m + 1) (59 : UInt8)).drop 1 = List.replicate m 59 := rfl
    rw [after_nil, hd, skip_semis, List.drop_zero, Nat.add_zero, toks_semis m f (p + 1) (k + 1) (by omega) (by omega)] at hm
    rw [hm, semis_succ]
    rfl
  | _, 0, _, _, hf, _ => by omega
theorem toks_full_semis : ∀ (m f p k : Nat), m + 1 ≤ f → k ≤ 16383 → 16384 ≤ k + m → toks f (List.replicate m 59) p k = .error (p + (16383 - k), 6)
  | 0, _, _, _, _, h1, h2 => by omega
  | m + 1, f + 1, p, k, hf, h1, h2 => by
    have hne : List.replicate (m + 1) (59 : UInt8) ≠ [] := by simp
    have ht : tok (List.replicate (m + 1) 59) = .ok (4, 1, 0) := tok_semi _
    by_cases hk : 16384 ≤ k + 1
    · rw [toks_full hne ht f p k hk, show 16383 - k = 0 from by omega, Nat.add_zero]
    · have hm := toks_more hne ht f p k (by omega) []
      have hd : (List.replicate (m + 1) (59 : UInt8)).drop 1 = List.replicate m 59 := rfl
      rw [after_nil, hd, skip_semis, List.drop_zero, Nat.add_zero, toks_full_semis m f (p + 1) (k + 1) (by omega) (by omega) (by omega)] at hm
      rw [hm, show p + 1 + (16383 - (k + 1)) = p + (16383 - k) from by omega]
      rfl
  | _ + 1, 0, _, _, hf, _, _ => by omega
theorem tokens_semis (n : Nat) (h : n ≤ 16383) : tokens (List.replicate n 59) = .ok (semis 0 n) := by
  unfold tokens
  rw [List.length_replicate, if_neg (by omega), skip_semis, List.drop_zero, toks_semis n _ 0 0 (by omega) (by omega)]
theorem tokens_full_semis (n : Nat) (h : 16384 ≤ n) (h2 : n ≤ 65536) : tokens (List.replicate n 59) = .error (16383, 6) := by
  unfold tokens
  rw [List.length_replicate, if_neg (by omega), skip_semis, List.drop_zero, toks_full_semis n _ 0 0 (by omega) (by omega) (by omega)]
theorem skip_spaces : ∀ m : Nat, skip false (List.replicate m 32) = m
  | 0 => rfl
  | m + 1 => by
    rw [List.replicate_succ, skip_blank (by decide), skip_spaces m]
theorem tokens_spaces (n : Nat) (h : n ≤ 65536) : tokens (List.replicate n 32) = .ok [⟨0, [], 0, n⟩] := by
  unfold tokens
  rw [List.length_replicate, if_neg (by omega), skip_spaces, List.drop_of_length_le (by simp), toks_end]
theorem tokens_long_spaces (n : Nat) (h : 65536 < n) : tokens (List.replicate n 32) = .error (65536, 4) := by
  unfold tokens
  rw [List.length_replicate, if_pos (by omega)]
theorem semis_len (p m : Nat) : (semis p m).length = m + 1 := by simp [semis]
theorem semis_last (p m : Nat) : (semis p m)[m]'(by rw [semis_len]; omega) = ⟨0, [], 0, p + m⟩ := by
  unfold semis
  rw [List.getElem_append_right (by simp)]
  simp
end Lx
theorem cellsOf_len : ∀ l : List Lx.T, (cellsOf l).length = l.length * 4
  | [] => rfl
  | t :: l => by have := cellsOf_len l; simp [cellsOf, tokCells] at this ⊢; omega
theorem cellsOf_at : ∀ (l : List Lx.T) (j : Nat) (hj : j < l.length) (i : Nat) (_ : i < 4), (cellsOf l)[j * 4 + i]? = (tokCells l[j])[i]?
  | t :: l, 0, _, i, hi => by
    show (tokCells t ++ cellsOf l)[0 * 4 + i]? = _
    rw [List.getElem?_append_left (by simp [tokCells]; omega), Nat.zero_mul, Nat.zero_add]; rfl
  | t :: l, j + 1, hj, i, hi => by
    show (tokCells t ++ cellsOf l)[(j + 1) * 4 + i]? = _
    rw [List.getElem?_append_right (by simp [tokCells]; omega)]
    have := cellsOf_at l j (by simpa using hj) i hi
    have e : (j + 1) * 4 + i - (tokCells t).length = j * 4 + i := by simp [tokCells]; omega
    rw [e, this]; rfl
  | [], _, hj, _, _ => absurd hj (by simp)
/-- The four cells of a token in a row. -/
theorem row_cells {w w' : World} {base g n c : Nat} {ts : List Lx.T} (ho : w.ownsRow base 39 4 (.slice (some ⟨g, 0, none⟩) n c) n (cellsOf ts)) (hn : ts.length = n) (hb : Below w.heap.size w w') (hg : g < w.heap.size) (j : Nat) (hj : j < ts.length) :
    w'.cell? ⟨g, j * 4, none⟩ = some (.int .u8 ts[j].kind) ∧ w'.cell? ⟨g, j * 4 + 1, none⟩ = some (.string ⟨ts[j].text.toArray⟩) ∧ w'.cell? ⟨g, j * 4 + 2, none⟩ = some (.int .i64 ts[j].int) ∧ w'.cell? ⟨g, j * 4 + 3, none⟩ = some (.int .i64 ts[j].pos) := by
  have h : ∀ i, i < 4 → w'.cell? ⟨g, j * 4 + i, none⟩ = (tokCells ts[j])[i]? := fun i hi =>
    (hb.cell (p := ⟨g, j * 4 + i, none⟩) hg).trans ((World.ownsRow.cellAt ho (j * 4 + i) (by omega)).trans (cellsOf_at ts j hj i hi))
  exact ⟨h 0 (by decide), h 1 (by decide), h 2 (by decide), h 3 (by decide)⟩
end Go.Proofs.YtlkedogplmnpkaaGreatDoor
