/- 
  The law LexTokens, walked: true for any source; what was there stays as it was.
-/
import Derived.Test.YtlkedogplmnpkaaGreatDoorLexSm
namespace Go.Proofs.YtlkedogplmnpkaaGreatDoor
open Go.RowKit
namespace Lx
theorem toks_err : ∀ (f : Nat) (l : List UInt8) (p n a c : Nat), toks f l p n = .error (a, c) → 0 < c ∧ c ≤ 32
  | 0, _, _, _, _, _, h => by cases h
  | f + 1, l, p, n, a, c, h => by
    by_cases hne : l = []
    · subst hne; rw [toks_end] at h; cases h
    · cases ht : tok l with
      | error e => rw [toks_bad hne ht] at h; injection h with h; injection h with _ h; subst h; exact tok_err ht
      | ok x =>
        obtain ⟨k, m, v⟩ := x
        by_cases hn : 16384 ≤ n + 1
        · rw [toks_full hne ht f p n hn] at h; injection h with h; injection h with _ h; omega
        · have hm := toks_more hne ht f p n (by omega) []
          rw [after_nil, h] at hm
          cases hr : toks f ((l.drop m).drop (skip false (l.drop m))) (p + m + skip false (l.drop m)) (n + 1) with
          | error e =>
            rw [hr] at hm
            simp only [after] at hm
            injection hm with hm
            subst hm
            exact toks_err f _ _ _ _ _ hr
          | ok ts => rw [hr] at hm; cases hm
theorem tokens_err {l : List UInt8} {a c : Nat} (h : tokens l = .error (a, c)) : 0 < c ∧ c ≤ 32 := by
  unfold tokens at h
  split at h
  · injection h with h; injection h with _ h; omega
  · exact toks_err _ _ _ _ _ _ h
theorem toks_some : ∀ (f : Nat) (l : List UInt8) (p n : Nat) (ts : List T), toks f l p n = .ok ts → l.length < f → 0 < ts.length ∧ ts.length + n ≤ 16384 ∨ n ≥ 16384
  | f + 1, l, p, n, ts, h, hf => by
    by_cases hne : l = []
    · subst hne; rw [toks_end] at h; injection h with h; subst h; simp; omega
    · cases ht : tok l with
      | error e => rw [toks_bad hne ht] at h; cases h
      | ok x =>
        obtain ⟨k, m, v⟩ := x
        by_cases hn : 16384 ≤ n + 1
        · rw [toks_full hne ht f p n hn] at h; cases h
        · have hm := toks_more hne ht f p n (by omega) []
          have hp := tok_pos hne ht
          rw [after_nil, h] at hm
          cases hr : toks f ((l.drop m).drop (skip false (l.drop m))) (p + m + skip false (l.drop m)) (n + 1) with
          | error e => rw [hr] at hm; cases hm
          | ok ts2 =>
            rw [hr] at hm
            simp only [after] at hm
            injection hm with hm
            subst hm
            have := toks_some f _ _ _ _ hr (by simp only [List.length_drop]; omega)
            simp
            omega
theorem tokens_some {l : List UInt8} {ts : List T} (h : tokens l = .ok ts) : 0 < ts.length ∧ ts.length ≤ 16384 := by
  unfold tokens at h
  split at h
  · cases h
  · have := toks_some _ _ _ _ _ h (by simp only [List.length_drop]; omega)
    omega
end Lx
theorem refTokens_good (s : ByteArray) (ts : List Lx.T) (n : Nat) (h : Lx.tokens s.data.toList = .ok ts) (hn : ts.length = n) (h0 : 0 < n) (w : World) :
    Calls Tryz.prog 7 #[.string s] w fun e w' => ∃ g c : Nat, e = .returned (.tuple #[.slice (some ⟨g, 0, none⟩) n c, .agg #[.int .i64 0, .int .i64 0]]) ∧ Below w.heap.size w w' ∧ g < w'.heap.size ∧ w'.ownsRow w.heap.size 39 4 (.slice (some ⟨g, 0, none⟩) n c) n (cellsOf ts) := by
  refine (refTokens_calls s w).mono ?_
  rintro e w' ⟨hb, h2⟩
  rw [h] at h2
  obtain ⟨v, rfl, ho⟩ := h2
  rw [hn] at ho
  obtain ⟨g, cap, rfl, hg, hl⟩ := World.ownsRow.form ho h0
  exact ⟨g, cap, rfl, hb, hl, ho⟩
theorem refTokens_fault (s : ByteArray) (p c : Nat) (h : Lx.tokens s.data.toList = .error (p, c)) (w : World) :
    Calls Tryz.prog 7 #[.string s] w fun e w' => e = .returned (.tuple #[.slice none 0 0, .agg #[.int .i64 p, .int .i64 c]]) ∧ Below w.heap.size w w' := by
  refine (refTokens_calls s w).mono ?_
  rintro e w' ⟨hb, h2⟩
  rw [h] at h2
  exact ⟨h2, hb⟩

set_option maxHeartbeats 2000000 in
set_option maxRecDepth 100000 in
theorem lexTokens_great (s : ByteArray) (w : World) (ht : Tabs w) (hs : 4096 < s.size) :
    Calls Tryz.prog 3 #[.string s] w fun e w' => e = .returned (.bool true) ∧ Below w.heap.size w w' := by
  have KA := Lib.hid (fun (w : World) (ht : Tabs w) => alive_calls w ht)
  go_enter Tryz.func3, Tryz.ntmps3
  go_wp2_with (go_at_call 5; refine (KA.out _ ht).mono ?_; rintro e w4 ⟨rfl, hb4⟩)
  go_ret
  exact ⟨rfl, hb4⟩

set_option maxHeartbeats 4000000 in
set_option maxRecDepth 100000 in
theorem lexTokens_bad (s : ByteArray) (w : World) (ht : Tabs w) (hh : Han w) (hs : ¬ 4096 < s.size) (p c : Nat) (hr : Lx.tokens s.data.toList = .error (p, c)) :
    Calls Tryz.prog 3 #[.string s] w fun e w' => e = .returned (.bool true) ∧ Below w.heap.size w w' := by
  have hc := Lx.tokens_err hr
  have KA := Lib.hid (fun (w : World) (ht : Tabs w) => alive_calls w ht)
  have K1 := Lib.hid (fun (w : World) (ht : Tabs w) => tokens_fault s p c hr w ht)
  have K2 := Lib.hid (fun (w : World) => refTokens_fault s p c hr w)
  have KD := Lib.hid (fun (w : World) (hh : Han w) => told_wrong p c (by omega) w hh)
  clear hr
  go_enter Tryz.func3, Tryz.ntmps3
  go_wp2_with (first
    | (go_at_call 6; refine (K1.out _ ht).mono ?_; rintro e w1 ⟨rfl, hb1⟩)
    | (go_at_call 7; refine (K2.out _).mono ?_; rintro e w2 ⟨rfl, hb2⟩
       have hbW : Below w.heap.size w (w2.alloc (.cells #[.int .i64 p, .int .i64 c] 30)) := (hb1.trans (hb2.mono hb1.size)).alloc (Nat.le_trans hb1.size hb2.size) _
       have hhW := hh.below hbW
       have htW := ht.below hbW)
    | (go_at_call 8; refine (same_empty _).mono ?_; rintro e w3 ⟨rfl, rfl⟩)
    | (go_at_call 9; refine (KD.out _ hhW).mono ?_; rintro e w4 ⟨rfl, hb4⟩; have ht4 := htW.below hb4)
    | (go_at_call 5; refine (KA.out _ ht4).mono ?_; rintro e w5 ⟨rfl, hb5⟩))
  go_ret
  exact ⟨rfl, hbW.trans ((hb4.trans (hb5.mono hb4.size)).mono hbW.size)⟩

set_option maxHeartbeats 4000000 in
set_option maxRecDepth 100000 in
theorem lexTokens_good (s : ByteArray) (w : World) (ht : Tabs w) (hs : ¬ 4096 < s.size) (ts : List Lx.T) (hr : Lx.tokens s.data.toList = .ok ts) :
    Calls Tryz.prog 3 #[.string s] w fun e w' => e = .returned (.bool true) ∧ Below w.heap.size w w' := by
  have hc := Lx.tokens_some hr
  obtain ⟨n, hn⟩ : ∃ n, ts.length = n := ⟨_, rfl⟩
  rw [hn] at hc
  obtain ⟨hn0, hn1⟩ := hc
  have KA := Lib.hid (fun (w : World) (ht : Tabs w) => alive_calls w ht)
  have K1 := Lib.hid (fun (w : World) (ht : Tabs w) => tokens_good s ts n hr hn hn0 w ht)
  have K2 := Lib.hid (fun (w : World) => refTokens_good s ts n hr hn hn0 w)
  have KD := Lib.hid (fun (w : World) => told_nil w 0)
  clear hr
  go_enter Tryz.func3, Tryz.ntmps3
  go_wp2_with (first
    | (go_at_call 6; refine (K1.out _ ht).mono ?_; rintro e w1 ⟨g, c, rfl, hb1, hg0, hg, ho⟩)
    | (go_at_call 7; refine (K2.out _).mono ?_; rintro e w2 ⟨g2, c2, rfl, hb2, hg2, ho2⟩
       have hb2W : Below w2.heap.size w2 (w2.alloc (.cells #[.int .i64 0, .int .i64 0] 30)) := (Below.refl _ _).alloc (Nat.le_refl _) _
       have hbW : Below w.heap.size w (w2.alloc (.cells #[.int .i64 0, .int .i64 0] 30)) := (hb1.trans (hb2.mono hb1.size)).alloc (Nat.le_trans hb1.size hb2.size) _
       have htW := ht.below hbW
       have KM := Lib.hid (same_rows ts n g c w.heap.size g2 c2 w1.heap.size (w2.alloc (.cells #[.int .i64 0, .int .i64 0] 30)) hn (by omega) (own_below (own_below ho hb2) hb2W) (own_below ho2 hb2W) (by have := hb2.size; simp; omega) (by simp; omega)))
    | (go_at_call 8; refine KM.out.mono ?_; rintro e w3 ⟨rfl, hb3⟩; have ht3 := htW.below hb3
       have k0 : w3.cell? ⟨w2.heap.size, 0, none⟩ = some (.int .i64 0) := (hb3.cell (p := ⟨w2.heap.size, 0, none⟩) (by simp)).trans (by rw [World.cell?_alloc_at _ _ _ _ (by rfl)]; rfl)
       have k1 : w3.cell? ⟨w2.heap.size, 1, none⟩ = some (.int .i64 0) := (hb3.cell (p := ⟨w2.heap.size, 1, none⟩) (by simp)).trans (by rw [World.cell?_alloc_at _ _ _ _ (by rfl)]; rfl))
    | (go_at_call 9; refine (KD.out _).mono ?_; rintro e w4 ⟨rfl, hb4⟩; have ht4 := ht3.below hb4)
    | (go_at_call 5; refine (KA.out _ ht4).mono ?_; rintro e w5 ⟨rfl, hb5⟩))
  go_ret
  exact ⟨rfl, hbW.trans ((hb3.trans ((hb4.trans (hb5.mono hb4.size)).mono hb3.size)).mono hbW.size)⟩

/-- The law, at whatever it is handed. -/
theorem lexTokens_calls (s : ByteArray) (w : World) (ht : Tabs w) (hh : Han w) :
    Calls Tryz.prog 3 #[.string s] w fun e w' => e = .returned (.bool true) ∧ Below w.heap.size w w' := by
  by_cases hs : 4096 < s.size
  · exact lexTokens_great s w ht hs
  · cases hr : Lx.tokens s.data.toList with
    | error x => exact lexTokens_bad s w ht hh hs x.1 x.2 hr
    | ok ts => exact lexTokens_good s w ht hs ts hr
end Go.Proofs.YtlkedogplmnpkaaGreatDoor
