/- 
  The law LexLong, walked: true for any number beside the bounds, for semicolons and for blanks; what was there stays as it was.
-/
import Derived.Test.YtlkedogplmnpkaaGreatDoorLexP
import Derived.Laws.IdiomStrings
import Derived.Deep.OwnRows
namespace Go.Proofs.YtlkedogplmnpkaaGreatDoor
open Go.RowKit

theorem infoU8 : (Tryz.prog.info? 5).map (fun i => (i.zero, i.size, i.bytes)) = some (some (.int .u8 0), 1, 1) := by kernel_rfl
/-- The first i of n bytes at a block hold c. -/
def Filled (w : World) (g n i : Nat) (c : Int) : Prop := (∀ j, j < i → w.cell? ⟨g, j, none⟩ = some (.int .u8 c)) ∧ (∀ j, j < n → ∃ u, w.cell? ⟨g, j, none⟩ = some u) ∧ ∀ j, w.frozen? ⟨g, j, none⟩ = false
theorem filled_start (w : World) (n : Nat) (c : Int) : Filled (w.alloc (.cells (madeCells #[.int .u8 0] n) 5)) w.heap.size n 0 c := by
  refine ⟨fun j h => absurd h (Nat.not_lt_zero _), fun j h => ⟨.int .u8 0, ?_⟩, fun j => by simp⟩
  rw [World.cell?_alloc_at _ _ _ _ rfl, ← Array.getElem?_toList, toList_madeCells_one, List.getElem?_replicate, if_pos h]
theorem filled_step {w : World} {g n i : Nat} {c : Int} (h : Filled w g n i c) (hi : i < n) : Filled (w.setCell ⟨g, i, none⟩ (.int .u8 c)) g n (i + 1) c := by
  obtain ⟨u, hu⟩ := h.2.1 i hi
  refine ⟨fun j hj => ?_, fun j hj => ?_, fun j => by rw [World.frozen?_setCell]; exact h.2.2 j⟩
  · by_cases e : j = i
    · subst e; exact World.cell?_setCell_same _ _ _ hu
    · rw [World.cell?_setCell_other _ _ _ _ (by intro x; injection x with _ x; exact e x.symm)]; exact h.1 j (by omega)
  · by_cases e : j = i
    · subst e; exact ⟨_, World.cell?_setCell_same _ _ _ hu⟩
    · rw [World.cell?_setCell_other _ _ _ _ (by intro x; injection x with _ x; exact e x.symm)]; exact h.2.1 j hj
theorem filled_cells {w : World} {g n : Nat} {b : UInt8} (h : Filled w g n n (b.toNat : Int)) : ∀ j (hj : j < (List.replicate n b).length), w.cell? ((⟨g, 0, none⟩ : Addr).add j) = some (.int .u8 (((List.replicate n b)[j].toNat : Nat) : Int)) := by
  intro j hj
  have hj' : j < n := by simpa using hj
  have e : (⟨g, 0, none⟩ : Addr).add j = ⟨g, j, none⟩ := by
    unfold Addr.add; split
    · rename_i h0; subst h0; rfl
    · simp
  rw [e, List.getElem_replicate]
  exact h.1 j hj'
theorem last_semi {w : World} {base g n c : Nat} (ho : w.ownsRow base 39 4 (.slice (some ⟨g, 0, none⟩) (n + 1) c) (n + 1) (cellsOf (Lx.semis 0 n))) (hg : g < w.heap.size) :
    w.cell? ⟨g, n * 4, none⟩ = some (.int .u8 0) ∧ w.cell? ⟨g, n * 4 + 1, none⟩ = some (.string ⟨#[]⟩) ∧ w.cell? ⟨g, n * 4 + 2, none⟩ = some (.int .i64 0) ∧ w.cell? ⟨g, n * 4 + 3, none⟩ = some (.int .i64 n) := by
  have h := row_cells ho (Lx.semis_len 0 n) (Below.refl _ _) hg n (by rw [Lx.semis_len]; omega)
  rw [Lx.semis_last, Nat.zero_add] at h
  exact h
theorem one_token {w : World} {base g n c : Nat} (ho : w.ownsRow base 39 4 (.slice (some ⟨g, 0, none⟩) 1 c) 1 (cellsOf [⟨0, [], 0, n⟩])) :
    w.cell? ⟨g, 0, none⟩ = some (.int .u8 0) ∧ w.cell? ⟨g, 1, none⟩ = some (.string ⟨#[]⟩) ∧ w.cell? ⟨g, 2, none⟩ = some (.int .i64 0) ∧ w.cell? ⟨g, 3, none⟩ = some (.int .i64 n) :=
  ⟨World.ownsRow.cellAt ho 0 (by decide), World.ownsRow.cellAt ho 1 (by decide), World.ownsRow.cellAt ho 2 (by decide), World.ownsRow.cellAt ho 3 (by decide)⟩
theorem semis_good (S : ByteArray) (n : Nat) (h : Lx.tokens S.data.toList = .ok (Lx.semis 0 n)) (w : World) (ht : Tabs w) :
    Calls Tryz.prog 6 #[.string S] w fun e w' => ∃ g c : Nat, e = .returned (.tuple #[.slice (some ⟨g, 0, none⟩) (n + 1) c, .nilIface]) ∧ Below w.heap.size w w' ∧
      w'.cell? ⟨g, n * 4, none⟩ = some (.int .u8 0) ∧ w'.cell? ⟨g, n * 4 + 1, none⟩ = some (.string ⟨#[]⟩) ∧ w'.cell? ⟨g, n * 4 + 2, none⟩ = some (.int .i64 0) ∧ w'.cell? ⟨g, n * 4 + 3, none⟩ = some (.int .i64 n) := by
  refine (tokens_good S (Lx.semis 0 n) (n + 1) h (Lx.semis_len 0 n) (by omega) w ht).mono ?_
  rintro e w2 ⟨g, cp, he, hb2, hg1, hg2, ho2⟩
  exact ⟨g, cp, he, hb2, last_semi ho2 hg2⟩
theorem spaces_good (S : ByteArray) (n : Nat) (h : Lx.tokens S.data.toList = .ok [⟨0, [], 0, n⟩]) (w : World) (ht : Tabs w) :
    Calls Tryz.prog 6 #[.string S] w fun e w' => ∃ g c : Nat, e = .returned (.tuple #[.slice (some ⟨g, 0, none⟩) 1 c, .nilIface]) ∧ Below w.heap.size w w' ∧
      w'.cell? ⟨g, 0, none⟩ = some (.int .u8 0) ∧ w'.cell? ⟨g, 1, none⟩ = some (.string ⟨#[]⟩) ∧ w'.cell? ⟨g, 2, none⟩ = some (.int .i64 0) ∧ w'.cell? ⟨g, 3, none⟩ = some (.int .i64 n) := by
  refine (tokens_good S [⟨0, [], 0, n⟩] 1 h rfl (by omega) w ht).mono ?_
  rintro e w2 ⟨g, cp, he, hb2, hg1, hg2, ho2⟩
  exact ⟨g, cp, he, hb2, one_token ho2⟩

set_option maxHeartbeats 4000000 in
set_option maxRecDepth 100000 in
theorem lexLong_semis_over (over : Int) (n : Nat) (w : World) (ht : Tabs w) (hh : Han w) (hn : 16383 + over = (n : Int)) (hn0 : 0 < n) (hr : over ≤ 127) (ho : 0 < over) :
    Calls Tryz.prog 4 #[.int .i8 over, .bool true] w fun e w' => e = .returned (.bool true) ∧ Below w.heap.size w w' := by
  have hmk := run_make_row' (P := Tryz.prog) 37 5 (.int .u8 0) 1 Tryz.underlying37 infoU8 rfl .i64 .i64 n (by omega) (by omega)
  obtain ⟨S, hS⟩ : ∃ S : ByteArray, (⟨(List.replicate n (59 : UInt8)).toArray⟩ : ByteArray) = S := ⟨_, rfl⟩
  have hSd : S.data.toList = List.replicate n 59 := by rw [← hS]

  have KA := Lib.hid (fun (w : World) (ht : Tabs w) => alive_calls w ht)
  have KT := Lib.hid (fun (w : World) (ht : Tabs w) => tokens_fault S 16383 6 (by rw [hSd]; exact Lx.tokens_full_semis n (by omega) (by omega)) w ht)
  have KD := Lib.hid (fun (w : World) (hh : Han w) => told_wrong 16383 6 (by decide) w hh)
  clear hSd
  go_enter Tryz.func4, Tryz.ntmps4
  go_wp2
  have hb0 : Below w.heap.size w (w.alloc (.cells (madeCells #[.int .u8 0] n) 5)) := (Below.refl _ _).alloc (Nat.le_refl _) _
  have hF0 := filled_start w n 59
  obtain ⟨w0, hw0⟩ : ∃ w0, w.alloc (.cells (madeCells #[.int .u8 0] n) 5) = w0 := ⟨_, rfl⟩
  rw [hw0] at hb0 hF0
  go_loopw [7] (fun i wr => ∃ j : Nat, i = .int .i64 j ∧ j ≤ n ∧ Hid (Filled wr w.heap.size n j 59) ∧ Below w.heap.size w wr) (fun i _ => n - (intOf i).toNat)
  case atStart => exact ⟨0, rfl, Nat.zero_le _, Lib.hid (by first | exact hF0 | (rw [hw0]; exact hF0)), by first | exact hb0 | (rw [hw0]; exact hb0)⟩
  case round =>
    obtain ⟨j, rfl, hj, hF, hbr⟩ := hrel
    by_cases hlt : j < n
    · have hjI : (j : Int) < (n : Int) := by omega
      have hj0 : (0 : Int) ≤ (j : Int) := by omega
      obtain ⟨u, hu⟩ := hF.out.2.1 j hlt
      have hfz := hF.out.2.2 j
      go_wp2
      refine ⟨⟨j + 1, by go_num, by omega, Lib.hid (filled_step hF.out hlt), hbr.setCell (Nat.le_refl _) _⟩, ?_⟩
      simp [intOf]; omega
    · have hjn : j = n := by omega
      subst hjn
      have hjI : ¬ (j : Int) < (j : Int) := by omega
      have hcv := run_convert_bytes_back (P := Tryz.prog) wr 37 9 5 ⟨w.heap.size, 0, none⟩ j (List.replicate j (59 : UInt8)) Tryz.underlying37 Tryz.underlying5 Tryz.underlying9 (filled_cells hF.out)
      rw [List.length_replicate, hS] at hcv
      have htr := ht.below hbr
      have hhr := hh.below hbr
      clear hS hF
      go_wp2_with (first
        | (go_at_call 6; refine (KT.out _ htr).mono ?_; rintro e w2 ⟨rfl, hb2⟩; have ht2 := htr.below hb2; have hh2 := hhr.below hb2)
        | (go_at_call 9; refine (KD.out _ hh2).mono ?_; rintro e w3 ⟨rfl, hb3⟩; have ht3 := ht2.below hb3)
        | (go_at_call 5; refine (KA.out _ ht3).mono ?_; rintro e w4 ⟨rfl, hb4⟩))
      go_ret
      exact ⟨rfl, hbr.trans ((hb2.trans ((hb3.trans (hb4.mono hb3.size)).mono hb2.size)).mono hbr.size)⟩

set_option maxHeartbeats 4000000 in
set_option maxRecDepth 100000 in
theorem lexLong_semis_under (over : Int) (n : Nat) (w : World) (ht : Tabs w) (hh : Han w) (hn : 16383 + over = (n : Int)) (hn0 : 0 < n) (hr : over ≤ 127) (ho : ¬ 0 < over) :
    Calls Tryz.prog 4 #[.int .i8 over, .bool true] w fun e w' => e = .returned (.bool true) ∧ Below w.heap.size w w' := by
  have hmk := run_make_row' (P := Tryz.prog) 37 5 (.int .u8 0) 1 Tryz.underlying37 infoU8 rfl .i64 .i64 n (by omega) (by omega)
  obtain ⟨S, hS⟩ : ∃ S : ByteArray, (⟨(List.replicate n (59 : UInt8)).toArray⟩ : ByteArray) = S := ⟨_, rfl⟩
  have hSd : S.data.toList = List.replicate n 59 := by rw [← hS]

  have KA := Lib.hid (fun (w : World) (ht : Tabs w) => alive_calls w ht)
  have KT := Lib.hid (fun (w : World) (ht : Tabs w) => semis_good S n (by rw [hSd]; exact Lx.tokens_semis n (by omega)) w ht)
  clear hSd
  go_enter Tryz.func4, Tryz.ntmps4
  go_wp2
  have hb0 : Below w.heap.size w (w.alloc (.cells (madeCells #[.int .u8 0] n) 5)) := (Below.refl _ _).alloc (Nat.le_refl _) _
  have hF0 := filled_start w n 59
  obtain ⟨w0, hw0⟩ : ∃ w0, w.alloc (.cells (madeCells #[.int .u8 0] n) 5) = w0 := ⟨_, rfl⟩
  rw [hw0] at hb0 hF0
  go_loopw [7] (fun i wr => ∃ j : Nat, i = .int .i64 j ∧ j ≤ n ∧ Hid (Filled wr w.heap.size n j 59) ∧ Below w.heap.size w wr) (fun i _ => n - (intOf i).toNat)
  case atStart => exact ⟨0, rfl, Nat.zero_le _, Lib.hid (by first | exact hF0 | (rw [hw0]; exact hF0)), by first | exact hb0 | (rw [hw0]; exact hb0)⟩
  case round =>
    obtain ⟨j, rfl, hj, hF, hbr⟩ := hrel
    by_cases hlt : j < n
    · have hjI : (j : Int) < (n : Int) := by omega
      have hj0 : (0 : Int) ≤ (j : Int) := by omega
      obtain ⟨u, hu⟩ := hF.out.2.1 j hlt
      have hfz := hF.out.2.2 j
      go_wp2
      refine ⟨⟨j + 1, by go_num, by omega, Lib.hid (filled_step hF.out hlt), hbr.setCell (Nat.le_refl _) _⟩, ?_⟩
      simp [intOf]; omega
    · have hjn : j = n := by omega
      subst hjn
      have hjI : ¬ (j : Int) < (j : Int) := by omega
      have hcv := run_convert_bytes_back (P := Tryz.prog) wr 37 9 5 ⟨w.heap.size, 0, none⟩ j (List.replicate j (59 : UInt8)) Tryz.underlying37 Tryz.underlying5 Tryz.underlying9 (filled_cells hF.out)
      rw [List.length_replicate, hS] at hcv
      have htr := ht.below hbr
      have hhr := hh.below hbr
      clear hS hF
      have hjs : (j : Int) < (j : Int) + 1 := by omega
      have hjz : (0 : Int) ≤ (j : Int) := by omega
      go_wp2_with (first
        | (go_at_call 6; refine (KT.out _ htr).mono ?_; rintro e w2 ⟨g, cp, rfl, hb2, hc0, hc1, hc2, hc3⟩; have ht2 := htr.below hb2)
        | (go_at_call 5; refine (KA.out _ ht2).mono ?_; rintro e w4 ⟨rfl, hb4⟩))
      go_ret
      exact ⟨rfl, hbr.trans ((hb2.trans (hb4.mono hb2.size)).mono hbr.size)⟩

set_option maxHeartbeats 4000000 in
set_option maxRecDepth 100000 in
theorem lexLong_spaces_over (over : Int) (n : Nat) (w : World) (ht : Tabs w) (hh : Han w) (hn : 65536 + over = (n : Int)) (hn0 : 0 < n) (hr : over ≤ 127) (ho : 0 < over) :
    Calls Tryz.prog 4 #[.int .i8 over, .bool false] w fun e w' => e = .returned (.bool true) ∧ Below w.heap.size w w' := by
  have hmk := run_make_row' (P := Tryz.prog) 37 5 (.int .u8 0) 1 Tryz.underlying37 infoU8 rfl .i64 .i64 n (by omega) (by omega)
  obtain ⟨S, hS⟩ : ∃ S : ByteArray, (⟨(List.replicate n (32 : UInt8)).toArray⟩ : ByteArray) = S := ⟨_, rfl⟩
  have hSd : S.data.toList = List.replicate n 32 := by rw [← hS]

  have KA := Lib.hid (fun (w : World) (ht : Tabs w) => alive_calls w ht)
  have KT := Lib.hid (fun (w : World) (ht : Tabs w) => tokens_fault S 65536 4 (by rw [hSd]; exact Lx.tokens_long_spaces n (by omega)) w ht)
  have KD := Lib.hid (fun (w : World) (hh : Han w) => told_wrong 65536 4 (by decide) w hh)
  clear hSd
  go_enter Tryz.func4, Tryz.ntmps4
  go_wp2
  have hb0 : Below w.heap.size w (w.alloc (.cells (madeCells #[.int .u8 0] n) 5)) := (Below.refl _ _).alloc (Nat.le_refl _) _
  have hF0 := filled_start w n 32
  obtain ⟨w0, hw0⟩ : ∃ w0, w.alloc (.cells (madeCells #[.int .u8 0] n) 5) = w0 := ⟨_, rfl⟩
  rw [hw0] at hb0 hF0
  go_loopw [12] (fun i wr => ∃ j : Nat, i = .int .i64 j ∧ j ≤ n ∧ Hid (Filled wr w.heap.size n j 32) ∧ Below w.heap.size w wr) (fun i _ => n - (intOf i).toNat)
  case atStart => exact ⟨0, rfl, Nat.zero_le _, Lib.hid (by first | exact hF0 | (rw [hw0]; exact hF0)), by first | exact hb0 | (rw [hw0]; exact hb0)⟩
  case round =>
    obtain ⟨j, rfl, hj, hF, hbr⟩ := hrel
    by_cases hlt : j < n
    · have hjI : (j : Int) < (n : Int) := by omega
      have hj0 : (0 : Int) ≤ (j : Int) := by omega
      obtain ⟨u, hu⟩ := hF.out.2.1 j hlt
      have hfz := hF.out.2.2 j
      go_wp2
      refine ⟨⟨j + 1, by go_num, by omega, Lib.hid (filled_step hF.out hlt), hbr.setCell (Nat.le_refl _) _⟩, ?_⟩
      simp [intOf]; omega
    · have hjn : j = n := by omega
      subst hjn
      have hjI : ¬ (j : Int) < (j : Int) := by omega
      have hcv := run_convert_bytes_back (P := Tryz.prog) wr 37 9 5 ⟨w.heap.size, 0, none⟩ j (List.replicate j (32 : UInt8)) Tryz.underlying37 Tryz.underlying5 Tryz.underlying9 (filled_cells hF.out)
      rw [List.length_replicate, hS] at hcv
      have htr := ht.below hbr
      have hhr := hh.below hbr
      clear hS hF
      go_wp2_with (first
        | (go_at_call 6; refine (KT.out _ htr).mono ?_; rintro e w2 ⟨rfl, hb2⟩; have ht2 := htr.below hb2; have hh2 := hhr.below hb2)
        | (go_at_call 9; refine (KD.out _ hh2).mono ?_; rintro e w3 ⟨rfl, hb3⟩; have ht3 := ht2.below hb3)
        | (go_at_call 5; refine (KA.out _ ht3).mono ?_; rintro e w4 ⟨rfl, hb4⟩))
      go_ret
      exact ⟨rfl, hbr.trans ((hb2.trans ((hb3.trans (hb4.mono hb3.size)).mono hb2.size)).mono hbr.size)⟩

set_option maxHeartbeats 4000000 in
set_option maxRecDepth 100000 in
theorem lexLong_spaces_under (over : Int) (n : Nat) (w : World) (ht : Tabs w) (hh : Han w) (hn : 65536 + over = (n : Int)) (hn0 : 0 < n) (hr : over ≤ 127) (ho : ¬ 0 < over) :
    Calls Tryz.prog 4 #[.int .i8 over, .bool false] w fun e w' => e = .returned (.bool true) ∧ Below w.heap.size w w' := by
  have hmk := run_make_row' (P := Tryz.prog) 37 5 (.int .u8 0) 1 Tryz.underlying37 infoU8 rfl .i64 .i64 n (by omega) (by omega)
  obtain ⟨S, hS⟩ : ∃ S : ByteArray, (⟨(List.replicate n (32 : UInt8)).toArray⟩ : ByteArray) = S := ⟨_, rfl⟩
  have hSd : S.data.toList = List.replicate n 32 := by rw [← hS]

  have KA := Lib.hid (fun (w : World) (ht : Tabs w) => alive_calls w ht)
  have KT := Lib.hid (fun (w : World) (ht : Tabs w) => spaces_good S n (by rw [hSd]; exact Lx.tokens_spaces n (by omega)) w ht)
  clear hSd
  go_enter Tryz.func4, Tryz.ntmps4
  go_wp2
  have hb0 : Below w.heap.size w (w.alloc (.cells (madeCells #[.int .u8 0] n) 5)) := (Below.refl _ _).alloc (Nat.le_refl _) _
  have hF0 := filled_start w n 32
  obtain ⟨w0, hw0⟩ : ∃ w0, w.alloc (.cells (madeCells #[.int .u8 0] n) 5) = w0 := ⟨_, rfl⟩
  rw [hw0] at hb0 hF0
  go_loopw [12] (fun i wr => ∃ j : Nat, i = .int .i64 j ∧ j ≤ n ∧ Hid (Filled wr w.heap.size n j 32) ∧ Below w.heap.size w wr) (fun i _ => n - (intOf i).toNat)
  case atStart => exact ⟨0, rfl, Nat.zero_le _, Lib.hid (by first | exact hF0 | (rw [hw0]; exact hF0)), by first | exact hb0 | (rw [hw0]; exact hb0)⟩
  case round =>
    obtain ⟨j, rfl, hj, hF, hbr⟩ := hrel
    by_cases hlt : j < n
    · have hjI : (j : Int) < (n : Int) := by omega
      have hj0 : (0 : Int) ≤ (j : Int) := by omega
      obtain ⟨u, hu⟩ := hF.out.2.1 j hlt
      have hfz := hF.out.2.2 j
      go_wp2
      refine ⟨⟨j + 1, by go_num, by omega, Lib.hid (filled_step hF.out hlt), hbr.setCell (Nat.le_refl _) _⟩, ?_⟩
      simp [intOf]; omega
    · have hjn : j = n := by omega
      subst hjn
      have hjI : ¬ (j : Int) < (j : Int) := by omega
      have hcv := run_convert_bytes_back (P := Tryz.prog) wr 37 9 5 ⟨w.heap.size, 0, none⟩ j (List.replicate j (32 : UInt8)) Tryz.underlying37 Tryz.underlying5 Tryz.underlying9 (filled_cells hF.out)
      rw [List.length_replicate, hS] at hcv
      have htr := ht.below hbr
      have hhr := hh.below hbr
      clear hS hF
      have hjs : (j : Int) < (j : Int) + 1 := by omega
      have hjz : (0 : Int) ≤ (j : Int) := by omega
      go_wp2_with (first
        | (go_at_call 6; refine (KT.out _ htr).mono ?_; rintro e w2 ⟨g, cp, rfl, hb2, hc0, hc1, hc2, hc3⟩; have ht2 := htr.below hb2)
        | (go_at_call 5; refine (KA.out _ ht2).mono ?_; rintro e w4 ⟨rfl, hb4⟩))
      go_ret
      exact ⟨rfl, hbr.trans ((hb2.trans (hb4.mono hb2.size)).mono hbr.size)⟩
end Go.Proofs.YtlkedogplmnpkaaGreatDoor
