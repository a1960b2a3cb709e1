/-
  The law's own 'alive': the answers that the document fixes are given: true; what was there stays as it was.
-/
import Derived.Test.YtlkedogplmnpkaaGreatDoorLexT
import Derived.Test.YtlkedogplmnpkaaGreatDoorLexD
import Derived.Test.YtlkedogplmnpkaaGreatDoorLexI
import Derived.Test.YtlkedogplmnpkaaGreatDoorLexL
import Derived.Deep.AppendLies
import Derived.Deep.RegionWith
namespace Go.Proofs.YtlkedogplmnpkaaGreatDoor
open Go.RowKit

/-- Tokens where it gives tokens: their cells, one by one. -/
theorem tokens_good (s : ByteArray) (ts : List Lx.T) (n : Nat) (h : Lx.tokens s.data.toList = .ok ts) (hn : ts.length = n) (h0 : 0 < n) (w : World) (ht : Tabs w) :
    Calls Tryz.prog 6 #[.string s] w fun e w' => ∃ g c : Nat, e = .returned (.tuple #[.slice (some ⟨g, 0, none⟩) n c, .nilIface]) ∧ Below w.heap.size w w' ∧ w.heap.size ≤ g ∧ g < w'.heap.size ∧ w'.ownsRow w.heap.size 39 4 (.slice (some ⟨g, 0, none⟩) n c) n (cellsOf ts) := by
  refine (tokens_calls s w ht).mono ?_
  rintro e w' ⟨hb, h2⟩
  rw [h] at h2
  obtain ⟨v, rfl, ho⟩ := h2
  rw [hn] at ho
  obtain ⟨g, cap, rfl, hg, hl⟩ := World.ownsRow.form ho h0
  exact ⟨g, cap, rfl, hb, hg, hl, ho⟩
theorem tokens_fault (s : ByteArray) (p c : Nat) (h : Lx.tokens s.data.toList = .error (p, c)) (w : World) (ht : Tabs w) :
    Calls Tryz.prog 6 #[.string s] w fun e w' => e = .returned (.tuple #[.slice none 0 0, .iface 63 (.agg #[.int .i64 p, .int .i64 c])]) ∧ Below w.heap.size w w' := by
  refine (tokens_calls s w ht).mono ?_
  rintro e w' ⟨hb, h2⟩
  rw [h] at h2
  exact ⟨h2, hb⟩

abbrev src1 : ByteArray := ⟨#[120, 32, 61, 32, 121, 32, 42, 94, 32, 51, 59, 32, 45, 45, 32, 116, 104, 114, 101, 101]⟩
abbrev src2 : ByteArray := ⟨#[120, 32, 61, 32, 121, 32, 38, 32, 122]⟩
def toks1 : List Lx.T := [⟨1, [120], 0, 0⟩, ⟨4, [61], 0, 2⟩, ⟨1, [121], 0, 4⟩, ⟨4, [42, 94], 0, 6⟩, ⟨2, [51], 3, 9⟩, ⟨4, [59], 0, 10⟩, ⟨0, [], 0, 20⟩]
theorem src1_toks : Lx.tokens src1.data.toList = .ok toks1 := by rfl
theorem src2_toks : Lx.tokens src2.data.toList = .error (6, 30) := by rfl
theorem word_fby : Lx.word [102, 98, 121] = true := by rfl
theorem name_x : Lx.name [120] = true := by rfl
theorem ret_true {b : Bool} (h : b = true) : Ending.returned (.bool b) = .returned (.bool true) := by rw [h]

theorem cell12 : (cellsOf toks1)[12]? = some (.int .u8 4) := by simp [cellsOf, tokCells, toks1]
theorem cell13 : (cellsOf toks1)[13]? = some (.string ⟨#[42, 94]⟩) := by simp [cellsOf, tokCells, toks1]
theorem cell14 : (cellsOf toks1)[14]? = some (.int .i64 0) := by simp [cellsOf, tokCells, toks1]
theorem cell15 : (cellsOf toks1)[15]? = some (.int .i64 6) := by simp [cellsOf, tokCells, toks1]
theorem cell16 : (cellsOf toks1)[16]? = some (.int .u8 2) := by simp [cellsOf, tokCells, toks1]
theorem cell17 : (cellsOf toks1)[17]? = some (.string ⟨#[51]⟩) := by simp [cellsOf, tokCells, toks1]
theorem cell18 : (cellsOf toks1)[18]? = some (.int .i64 3) := by simp [cellsOf, tokCells, toks1]
theorem cell19 : (cellsOf toks1)[19]? = some (.int .i64 9) := by simp [cellsOf, tokCells, toks1]
theorem cell24 : (cellsOf toks1)[24]? = some (.int .u8 0) := by simp [cellsOf, tokCells, toks1]
theorem cell25 : (cellsOf toks1)[25]? = some (.string ⟨#[]⟩) := by simp [cellsOf, tokCells, toks1]
theorem cell26 : (cellsOf toks1)[26]? = some (.int .i64 0) := by simp [cellsOf, tokCells, toks1]
theorem cell27 : (cellsOf toks1)[27]? = some (.int .i64 20) := by simp [cellsOf, tokCells, toks1]
set_option maxHeartbeats 1000000 in
set_option maxRecDepth 100000 in
theorem alive_calls (w : World) (ht : Tabs w) :
    Calls Tryz.prog 5 #[] w fun e w' => e = .returned (.bool true) ∧ Below w.heap.size w w' := by
  have K1 := Lib.hid (fun (w : World) (ht : Tabs w) => tokens_good src1 toks1 7 src1_toks rfl (by decide) w ht)
  have K2 := Lib.hid (fun (w : World) (ht : Tabs w) => tokens_fault src2 6 30 src2_toks w ht)
  have K3 := Lib.hid (fun w : World => (show Calls Tryz.prog 10 #[.string ⟨#[97, 10, 98]⟩, .int .i64 2] w fun e w' => e = .returned (.tuple #[.int .i64 2, .int .i64 1]) ∧ w = w' from lexLine_calls ⟨#[97, 10, 98]⟩ 2 w (by decide)))
  have K4 := Lib.hid (fun (w : World) (ht : Tabs w) => (show Calls Tryz.prog 12 #[.string ⟨#[102, 98, 121]⟩] w fun e w' => e = .returned (.bool true) ∧ Below w.heap.size w w' from word_calls ⟨#[102, 98, 121]⟩ w ht (by decide)))
  have K5 := Lib.hid (fun (w : World) (ht : Tabs w) => (show Calls Tryz.prog 13 #[.string ⟨#[120]⟩] w fun e w' => e = .returned (.bool true) ∧ Below w.heap.size w w' from name_calls ⟨#[120]⟩ w ht (by decide)))
  go_enter Tryz.func5, Tryz.ntmps5
  go_wp2_with (first | (go_at_call 6; with_reducible refine (K1.out _ ht).mono ?_; rintro e w1 ⟨g, c, rfl, hb1, hg1, hg2, ho⟩; have ht1 := ht.below hb1) | (go_at_call 6; with_reducible refine (K2.out _ ht1).mono ?_; rintro e w2 ⟨rfl, hb2⟩; have ht2 := ht1.below hb2; have c12 : w2.cell? ⟨g, 12, none⟩ = some (.int .u8 4) := (hb2.cell (p := ⟨g, 12, none⟩) hg2).trans ((World.ownsRow.cellAt ho 12 (by decide)).trans cell12); have c13 : w2.cell? ⟨g, 13, none⟩ = some (.string ⟨#[42, 94]⟩) := (hb2.cell (p := ⟨g, 13, none⟩) hg2).trans ((World.ownsRow.cellAt ho 13 (by decide)).trans cell13); have c14 : w2.cell? ⟨g, 14, none⟩ = some (.int .i64 0) := (hb2.cell (p := ⟨g, 14, none⟩) hg2).trans ((World.ownsRow.cellAt ho 14 (by decide)).trans cell14); have c15 : w2.cell? ⟨g, 15, none⟩ = some (.int .i64 6) := (hb2.cell (p := ⟨g, 15, none⟩) hg2).trans ((World.ownsRow.cellAt ho 15 (by decide)).trans cell15); have c16 : w2.cell? ⟨g, 16, none⟩ = some (.int .u8 2) := (hb2.cell (p := ⟨g, 16, none⟩) hg2).trans ((World.ownsRow.cellAt ho 16 (by decide)).trans cell16); have c17 : w2.cell? ⟨g, 17, none⟩ = some (.string ⟨#[51]⟩) := (hb2.cell (p := ⟨g, 17, none⟩) hg2).trans ((World.ownsRow.cellAt ho 17 (by decide)).trans cell17); have c18 : w2.cell? ⟨g, 18, none⟩ = some (.int .i64 3) := (hb2.cell (p := ⟨g, 18, none⟩) hg2).trans ((World.ownsRow.cellAt ho 18 (by decide)).trans cell18); have c19 : w2.cell? ⟨g, 19, none⟩ = some (.int .i64 9) := (hb2.cell (p := ⟨g, 19, none⟩) hg2).trans ((World.ownsRow.cellAt ho 19 (by decide)).trans cell19); have c24 : w2.cell? ⟨g, 24, none⟩ = some (.int .u8 0) := (hb2.cell (p := ⟨g, 24, none⟩) hg2).trans ((World.ownsRow.cellAt ho 24 (by decide)).trans cell24); have c25 : w2.cell? ⟨g, 25, none⟩ = some (.string ⟨#[]⟩) := (hb2.cell (p := ⟨g, 25, none⟩) hg2).trans ((World.ownsRow.cellAt ho 25 (by decide)).trans cell25); have c26 : w2.cell? ⟨g, 26, none⟩ = some (.int .i64 0) := (hb2.cell (p := ⟨g, 26, none⟩) hg2).trans ((World.ownsRow.cellAt ho 26 (by decide)).trans cell26); have c27 : w2.cell? ⟨g, 27, none⟩ = some (.int .i64 20) := (hb2.cell (p := ⟨g, 27, none⟩) hg2).trans ((World.ownsRow.cellAt ho 27 (by decide)).trans cell27)) | (go_at_call 10; with_reducible refine (K3.out _).mono ?_; rintro e w3 ⟨rfl, h⟩; subst h) | (go_at_call 11; refine (errorsIs_calls 6 30 _).mono ?_; rintro e w3 ⟨rfl, hb3⟩; have ht3 := ht2.below hb3) | (go_at_call 12; refine (K4.out _ ht3).mono ?_; rintro e w4 ⟨rfl, hb4⟩; have ht4 := ht3.below hb4) | (go_at_call 13; refine (K5.out _ ht4).mono ?_; rintro e w5 ⟨rfl, hb5⟩))
  go_ret
  exact ⟨rfl, hb1.trans ((hb2.trans ((hb3.trans ((hb4.trans (hb5.mono hb4.size)).mono hb3.size)).mono hb2.size)).mono hb1.size)⟩
end Go.Proofs.YtlkedogplmnpkaaGreatDoor
