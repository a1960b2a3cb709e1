/-
  token of package lex: the token at a place, or the fault.
-/
import Derived.Test.YtlkedogplmnpkaaGreatDoorLexD
import Derived.Test.YtlkedogplmnpkaaGreatDoorLexF
import Derived.Test.YtlkedogplmnpkaaGreatDoorLexN
import Derived.Deep.RegionWith
namespace Go.Proofs.YtlkedogplmnpkaaGreatDoor
open Go.RowKit

/-- What token hands back: the token (whatever stands in it beside a fault) and the fault. -/
def TokPost (l : List UInt8) (p : Int) (w : World) (e : Ending) (w' : World) : Prop :=
  Below w.heap.size w w' ∧ ∃ (k : Int) (x : ByteArray) (v : Int) (err : Value), e = .returned (.tuple #[.agg #[.int .u8 k, .string x, .int .i64 v, .int .i64 p], err]) ∧
    match Lx.tok l with
    | .error c => err = wrong p c
    | .ok (k', n, v') => err = .nilIface ∧ k = k' ∧ v = v' ∧ x.data.toList = l.take n

theorem TokPost.fault {l : List UInt8} {p : Int} {w w' : World} {k v : Int} {x : ByteArray} {c : Nat} (h : Hid (Lx.tok l = .error c)) (hb : Below w.heap.size w w') :
    TokPost l p w (.returned (.tuple #[.agg #[.int .u8 k, .string x, .int .i64 v, .int .i64 p], wrong p c])) w' :=
  ⟨hb, k, x, v, _, rfl, by rw [h.out]⟩
theorem TokPost.token {l : List UInt8} {p : Int} {w w' : World} {k v n : Nat} {x : ByteArray} (h : Hid (Lx.tok l = .ok (k, n, v))) (hx : x.data.toList = l.take n) (hb : Below w.heap.size w w') :
    TokPost l p w (.returned (.tuple #[.agg #[.int .u8 k, .string x, .int .i64 v, .int .i64 p], .nilIface])) w' :=
  ⟨hb, k, x, v, _, rfl, by rw [h.out]; exact ⟨rfl, rfl, rfl, hx⟩⟩
theorem boxes (w : World) (c : Array Value) (t : TypeId) : Below w.heap.size w (w.alloc (.cells c t)) := (Below.refl _ _).alloc (Nat.le_refl _) _
theorem take_extract (q : ByteArray) (n : Nat) : (q.extract 0 n).data.toList = q.data.toList.take n := by
  rw [Lib.extract_data]; simp
theorem take_size (q : ByteArray) (n : Nat) (h : n ≤ q.size) : (q.extract 0 n).size = n := by
  rw [← Lx.len, take_extract, List.length_take, Lx.len]; omega
theorem block_set {w : World} {g : Nat} {cs : Array Value} {t : TypeId} {fr : Nat × Nat} (h : w.heap[g]? = some (.cells cs t fr)) (i : Nat) (u : Value) : (w.setCell ⟨g, i, none⟩ u).heap[g]? = some (.cells (cs.setIfInBounds i u) t fr) := by
  unfold World.setCell
  simp [Array.getElem?_modify, h]
theorem token_end {l : List UInt8} {p : Int} {w W : World} {tmps : Array Value} {g : Nat} {k v : Int} {x : ByteArray} {err : Value} (h4 : tmps.getD 4 undef = .pointer (some ⟨g, 0, none⟩)) (h5 : tmps.getD 5 undef = err)
    (hB : W.heap[g]? = some (.cells #[.int .u8 k, .string x, .int .i64 v, .int .i64 p] 39 (0, 0))) (hpost : TokPost l p w (.returned (.tuple #[.agg #[.int .u8 k, .string x, .int .i64 v, .int .i64 p], err])) W) :
    bodyPost Tryz.prog Tryz.f16 (TokPost l p w) Exit.ret { tmps := tmps, defers := [] } W := by
  have c0 := cell_of_row W g 0 _ _ _ hB
  have c1 := cell_of_row W g 1 _ _ _ hB
  have c2 := cell_of_row W g 2 _ _ _ hB
  have c3 := cell_of_row W g 3 _ _ _ hB
  refine bodyPost_ret (v := .tuple #[.agg #[.int .u8 k, .string x, .int .i64 v, .int .i64 p], err]) ?_ rfl hpost
  simp only [Array.getD_eq_getD_getElem?] at h4 h5
  simp [results, Tryz.results16, go_sem, h4, h5, c0, c1, c2, c3]
theorem bcell {W w1 : World} (hb : Below W.heap.size W w1) : (∀ b o, b < W.heap.size → w1.cell? ⟨b, o, none⟩ = W.cell? ⟨b, o, none⟩) ∧ (∀ b o, b < W.heap.size → w1.frozen? ⟨b, o, none⟩ = W.frozen? ⟨b, o, none⟩) :=
  ⟨fun b o h => hb.cell (p := ⟨b, o, none⟩) h, fun b o h => hb.frozen (p := ⟨b, o, none⟩) h⟩

set_option maxHeartbeats 1000000 in
theorem token_long (s : ByteArray) (p : Nat) (w : World) (hs : s.size ≤ 65536) (hp : p < s.size) (q : ByteArray) (hq : s.extract p s.size = q) (hq0 : 0 < q.size) (hl : Lx.letter q[0] = true) (n : Nat) (hn : Hid (Lx.span Lx.named q.data.toList = n)) (hnq : n ≤ q.size) (h32 : 32 < n) (htok : Hid (Lx.tok q.data.toList = .error 32)) :
    Calls Tryz.prog 16 #[.string s, .int .i64 p] w (TokPost q.data.toList p w) := by
  have hqs : q.size ≤ 65536 := by rw [← hq, extract_size]; omega
  have hlen : q.size ≤ maxLen := by unfold maxLen; omega
  have K1 := Lib.hid (fun w : World => (show Calls Tryz.prog 25 #[.int .u8 (q[0].toNat : Int)] w fun e w' => e = .returned (.bool true) ∧ w = w' by rw [← hl]; exact letter_calls _ w))
  have K2 := Lib.hid (fun w : World => (show Calls Tryz.prog 26 #[.string q, .func (.func 27) #[] #[]] w fun e w' => e = .returned (.int .i64 n) ∧ w = w' by rw [← hn.out]; exact span_named q w hlen))
  clear hl
  go_enter Tryz.func16, Tryz.ntmps16
  go_wp2_with (first | (go_at_call 25; refine (K1.out _).mono ?_; rintro e w' ⟨rfl, rfl⟩) | (go_at_call 26; refine (K2.out _).mono ?_; rintro e w' ⟨rfl, rfl⟩))
  go_region_with (go_at_call 14; refine (fault_calls _ _ _).mono ?_; rintro e w' ⟨rfl, rfl⟩)
  all_goals go_wp2
  all_goals
    refine bodyPost_ret (v := .tuple #[.agg #[.int .u8 1, .string (q.extract 0 n), .int .i64 0, .int .i64 p], wrong p 32]) (by simp [results, Tryz.results16, Act.put, go_sem]) rfl ?_
    exact TokPost.fault (k := 1) htok ((boxes w _ _).drew)

set_option maxHeartbeats 1000000 in
theorem token_word_true (s : ByteArray) (p : Nat) (w : World) (ht : Tabs w) (hs : s.size ≤ 65536) (hp : p < s.size) (q : ByteArray) (hq : s.extract p s.size = q) (hq0 : 0 < q.size) (hl : Lx.letter q[0] = true) (n : Nat) (hn : Hid (Lx.span Lx.named q.data.toList = n)) (hnq : n ≤ q.size) (h32 : ¬ 32 < n) (hw : Lx.word (q.data.toList.take n) = true) (htok : Hid (Lx.tok q.data.toList = .ok (3, n, 0))) :
    Calls Tryz.prog 16 #[.string s, .int .i64 p] w (TokPost q.data.toList p w) := by
  have hqs : q.size ≤ 65536 := by rw [← hq, extract_size]; omega
  have hlen : q.size ≤ maxLen := by unfold maxLen; omega
  have K1 := Lib.hid (fun w : World => (show Calls Tryz.prog 25 #[.int .u8 (q[0].toNat : Int)] w fun e w' => e = .returned (.bool true) ∧ w = w' by rw [← hl]; exact letter_calls _ w))
  have K2 := Lib.hid (fun w : World => (show Calls Tryz.prog 26 #[.string q, .func (.func 27) #[] #[]] w fun e w' => e = .returned (.int .i64 n) ∧ w = w' by rw [← hn.out]; exact span_named q w hlen))
  have htw := ht.alloc (.cells #[.int .u8 1, .string (q.extract 0 n), .int .i64 0, .int .i64 p] 39)
  have K3 := Lib.hid (fun (w : World) (h : Tabs w) => (show Calls Tryz.prog 12 #[.string (q.extract 0 n)] w fun e w' => e = .returned (.bool true) ∧ Below w.heap.size w w' by
    have h1 := word_calls (q.extract 0 n) w h (by rw [take_size q n hnq]; unfold maxLen; omega)
    rw [take_extract, hw] at h1
    exact h1))
  clear hl hw
  go_enter Tryz.func16, Tryz.ntmps16
  go_wp2_with (first | (go_at_call 25; refine (K1.out _).mono ?_; rintro e w' ⟨rfl, rfl⟩) | (go_at_call 26; refine (K2.out _).mono ?_; rintro e w' ⟨rfl, rfl⟩) | (go_at_call 12; refine (K3.out _ htw).mono ?_; rintro e w2 ⟨rfl, hb⟩; obtain ⟨hc, hf⟩ := bcell hb; have hz : w.heap.size < w2.heap.size := by have := hb.size; simp at this; omega))
  have e0 : Below w.heap.size w w2 := (boxes w _ _).trans (hb.mono (by simp))
  have h0 := (hb.block w.heap.size (by simp)).trans (heap_alloc_new w _)
  have h1 := block_set h0 0 (.int .u8 3)
  have e1 := e0.setCell (p := ⟨w.heap.size, 0, none⟩) (Nat.le_refl _) (.int .u8 3)
  have h2 := block_set h1 0 (.int .u8 3)
  have e2 := e1.setCell (p := ⟨w.heap.size, 0, none⟩) (Nat.le_refl _) (.int .u8 3)
  have h3 := block_set h2 1 (.string (q.extract 0 n))
  have e3 := e2.setCell (p := ⟨w.heap.size, 1, none⟩) (Nat.le_refl _) (.string (q.extract 0 n))
  have h4 := block_set h3 2 (.int .i64 0)
  have e4 := e3.setCell (p := ⟨w.heap.size, 2, none⟩) (Nat.le_refl _) (.int .i64 0)
  have h5 := block_set h4 3 (.int .i64 p)
  have e5 := e4.setCell (p := ⟨w.heap.size, 3, none⟩) (Nat.le_refl _) (.int .i64 p)
  exact token_end rfl rfl h5 (TokPost.token (k := 3) (v := 0) htok (take_extract q n) e5)

set_option maxHeartbeats 1000000 in
theorem token_word_false (s : ByteArray) (p : Nat) (w : World) (ht : Tabs w) (hs : s.size ≤ 65536) (hp : p < s.size) (q : ByteArray) (hq : s.extract p s.size = q) (hq0 : 0 < q.size) (hl : Lx.letter q[0] = true) (n : Nat) (hn : Hid (Lx.span Lx.named q.data.toList = n)) (hnq : n ≤ q.size) (h32 : ¬ 32 < n) (hw : Lx.word (q.data.toList.take n) = false) (htok : Hid (Lx.tok q.data.toList = .ok (1, n, 0))) :
    Calls Tryz.prog 16 #[.string s, .int .i64 p] w (TokPost q.data.toList p w) := by
  have hqs : q.size ≤ 65536 := by rw [← hq, extract_size]; omega
  have hlen : q.size ≤ maxLen := by unfold maxLen; omega
  have K1 := Lib.hid (fun w : World => (show Calls Tryz.prog 25 #[.int .u8 (q[0].toNat : Int)] w fun e w' => e = .returned (.bool true) ∧ w = w' by rw [← hl]; exact letter_calls _ w))
  have K2 := Lib.hid (fun w : World => (show Calls Tryz.prog 26 #[.string q, .func (.func 27) #[] #[]] w fun e w' => e = .returned (.int .i64 n) ∧ w = w' by rw [← hn.out]; exact span_named q w hlen))
  have htw := ht.alloc (.cells #[.int .u8 1, .string (q.extract 0 n), .int .i64 0, .int .i64 p] 39)
  have K3 := Lib.hid (fun (w : World) (h : Tabs w) => (show Calls Tryz.prog 12 #[.string (q.extract 0 n)] w fun e w' => e = .returned (.bool false) ∧ Below w.heap.size w w' by
    have h1 := word_calls (q.extract 0 n) w h (by rw [take_size q n hnq]; unfold maxLen; omega)
    rw [take_extract, hw] at h1
    exact h1))
  clear hl hw
  go_enter Tryz.func16, Tryz.ntmps16
  go_wp2_with (first | (go_at_call 25; refine (K1.out _).mono ?_; rintro e w' ⟨rfl, rfl⟩) | (go_at_call 26; refine (K2.out _).mono ?_; rintro e w' ⟨rfl, rfl⟩) | (go_at_call 12; refine (K3.out _ htw).mono ?_; rintro e w2 ⟨rfl, hb⟩; obtain ⟨hc, hf⟩ := bcell hb; have hz : w.heap.size < w2.heap.size := by have := hb.size; simp at this; omega))
  have e0 : Below w.heap.size w w2 := (boxes w _ _).trans (hb.mono (by simp))
  have h0 := (hb.block w.heap.size (by simp)).trans (heap_alloc_new w _)
  have h1 := block_set h0 0 (.int .u8 1)
  have e1 := e0.setCell (p := ⟨w.heap.size, 0, none⟩) (Nat.le_refl _) (.int .u8 1)
  have h2 := block_set h1 1 (.string (q.extract 0 n))
  have e2 := e1.setCell (p := ⟨w.heap.size, 1, none⟩) (Nat.le_refl _) (.string (q.extract 0 n))
  have h3 := block_set h2 2 (.int .i64 0)
  have e3 := e2.setCell (p := ⟨w.heap.size, 2, none⟩) (Nat.le_refl _) (.int .i64 0)
  have h4 := block_set h3 3 (.int .i64 p)
  have e4 := e3.setCell (p := ⟨w.heap.size, 3, none⟩) (Nat.le_refl _) (.int .i64 p)
  exact token_end rfl rfl h4 (TokPost.token (k := 1) (v := 0) htok (take_extract q n) e4)

set_option maxHeartbeats 2000000 in
theorem token_range (s : ByteArray) (p : Nat) (w : World) (ht : Tabs w) (hs : s.size ≤ 65536) (hp : p < s.size) (q : ByteArray) (hq : s.extract p s.size = q) (hq0 : 0 < q.size) (hl : Lx.letter q[0] = false) (hd : Lx.digit q[0] = true) (n : Nat) (hn : Hid (Lx.span Lx.digit q.data.toList = n)) (_hn0 : 0 < n) (hnq : n ≤ q.size) (v : Nat) (hv : Hid (Lx.value (q.data.toList.take n) = v)) (hmax : 9223372036854775807 < v) (htok : Hid (Lx.tok q.data.toList = .error 31)) :
    Calls Tryz.prog 16 #[.string s, .int .i64 p] w (TokPost q.data.toList p w) := by
  have hqs : q.size ≤ 65536 := by rw [← hq, extract_size]; omega
  have hlen : q.size ≤ maxLen := by unfold maxLen; omega
  have K1 := Lib.hid (fun w : World => (show Calls Tryz.prog 25 #[.int .u8 (q[0].toNat : Int)] w fun e w' => e = .returned (.bool false) ∧ w = w' by rw [← hl]; exact letter_calls _ w))
  have K4 := Lib.hid (fun w : World => (show Calls Tryz.prog 30 #[.int .u8 (q[0].toNat : Int)] w fun e w' => e = .returned (.bool true) ∧ w = w' by rw [← hd]; exact digit_calls _ w))
  have K2 := Lib.hid (fun w : World => (show Calls Tryz.prog 26 #[.string q, .func (.func 30) #[] #[]] w fun e w' => e = .returned (.int .i64 n) ∧ w = w' by rw [← hn.out]; exact span_digit q w hlen))
  have hxs : (q.extract 0 n).size = n := take_size q n hnq
  have hxd : Lx.allDigits (q.extract 0 n).data.toList := by rw [take_extract, ← hn.out]; exact Lx.span_digits _
  have hxn : (q.extract 0 n).data.toList ≠ [] := Lx.ne_nil _ (by omega)
  have hxv : Hid (Lx.value (q.extract 0 n).data.toList = v) := Lib.hid (by rw [take_extract]; exact hv.out)
  have K5 := Lib.hid (fun (w : World) (ht : Tabs w) => parse_range (q.extract 0 n) w ht (by omega) hxd hxn v hxv hmax)
  clear hxs hxd hxn hxv
  have htw := ht.below (((boxes w #[.int .u8 2, .string (q.extract 0 n), .int .i64 0, .int .i64 p] 39)).drew)
  clear hl hd
  go_enter Tryz.func16, Tryz.ntmps16
  go_wp2_with (first | (go_at_call 25; refine (K1.out _).mono ?_; rintro e w' ⟨rfl, rfl⟩) | (go_at_call 30; refine (K4.out _).mono ?_; rintro e w' ⟨rfl, rfl⟩))
  go_region_with (go_at_call 26; refine (K2.out _).mono ?_; rintro e w' ⟨rfl, rfl⟩)
  all_goals go_wp2_with (go_at_call 31; refine (K5.out _ htw).mono ?_; rintro e w2 ⟨u, ty, er, rfl, hb⟩; obtain ⟨hc, hf⟩ := bcell hb; have hz : w.heap.size < w2.heap.size := by have := hb.size; simp at this; omega)
  all_goals go_region_with (go_at_call 14; refine (fault_calls _ _ _).mono ?_; rintro e w' ⟨rfl, rfl⟩)
  all_goals (try go_wp2)
  all_goals
    have e0 : Below w.heap.size w w2 := ((boxes w _ _).drew).trans (hb.mono (by simp))
    have h0 := (hb.block w.heap.size (by simp)).trans (heap_alloc_new w _)
    have h1 := block_set h0 2 (.int .i64 u)
    have e1 := e0.setCell (p := ⟨w.heap.size, 2, none⟩) (Nat.le_refl _) (.int .i64 u)
    have h2 := block_set h1 0 (.int .u8 2)
    have e2 := e1.setCell (p := ⟨w.heap.size, 0, none⟩) (Nat.le_refl _) (.int .u8 2)
    have h3 := block_set h2 1 (.string (q.extract 0 n))
    have e3 := e2.setCell (p := ⟨w.heap.size, 1, none⟩) (Nat.le_refl _) (.string (q.extract 0 n))
    have h4 := block_set h3 2 (.int .i64 u)
    have e4 := e3.setCell (p := ⟨w.heap.size, 2, none⟩) (Nat.le_refl _) (.int .i64 u)
    have h5 := block_set h4 3 (.int .i64 p)
    have e5 := e4.setCell (p := ⟨w.heap.size, 3, none⟩) (Nat.le_refl _) (.int .i64 p)
    exact token_end rfl rfl h5 (TokPost.fault (k := 2) (v := u) htok e5.drew)

set_option maxHeartbeats 2000000 in
theorem token_zero (s : ByteArray) (p : Nat) (w : World) (hs : s.size ≤ 65536) (hp : p < s.size) (q : ByteArray) (hq : s.extract p s.size = q) (hq0 : 0 < q.size) (hl : Lx.letter q[0] = false) (hd : Lx.digit q[0] = true) (n : Nat) (hn : Hid (Lx.span Lx.digit q.data.toList = n)) (_hn0 : 0 < n) (hnq : n ≤ q.size) (v : Nat) (hv : Hid (Lx.value (q.data.toList.take n) = v)) (hmax : v ≤ 9223372036854775807) (h1 : 1 < n) (hz0 : q[0] = 48) (htok : Hid (Lx.tok q.data.toList = .error 31)) :
    Calls Tryz.prog 16 #[.string s, .int .i64 p] w (TokPost q.data.toList p w) := by
  have hqs : q.size ≤ 65536 := by rw [← hq, extract_size]; omega
  have hlen : q.size ≤ maxLen := by unfold maxLen; omega
  have K1 := Lib.hid (fun w : World => (show Calls Tryz.prog 25 #[.int .u8 (q[0].toNat : Int)] w fun e w' => e = .returned (.bool false) ∧ w = w' by rw [← hl]; exact letter_calls _ w))
  have K4 := Lib.hid (fun w : World => (show Calls Tryz.prog 30 #[.int .u8 (q[0].toNat : Int)] w fun e w' => e = .returned (.bool true) ∧ w = w' by rw [← hd]; exact digit_calls _ w))
  have K2 := Lib.hid (fun w : World => (show Calls Tryz.prog 26 #[.string q, .func (.func 30) #[] #[]] w fun e w' => e = .returned (.int .i64 n) ∧ w = w' by rw [← hn.out]; exact span_digit q w hlen))
  have hxs : (q.extract 0 n).size = n := take_size q n hnq
  have hxd : Lx.allDigits (q.extract 0 n).data.toList := by rw [take_extract, ← hn.out]; exact Lx.span_digits _
  have hxn : (q.extract 0 n).data.toList ≠ [] := Lx.ne_nil _ (by omega)
  have hxv : Hid (Lx.value (q.extract 0 n).data.toList = v) := Lib.hid (by rw [take_extract]; exact hv.out)
  have K5 := Lib.hid (fun w : World => parse_ok (q.extract 0 n) w (by omega) hxd hxn v hxv hmax)
  clear hxs hxd hxn hxv
  have hx0 : ((q[0].toNat : Int) == 48) = true := by rw [hz0]; rfl
  have hx1 : decide ((1 : Int) < n) = true := by simp; omega
  clear hz0
  clear hl hd
  go_enter Tryz.func16, Tryz.ntmps16
  go_wp2_with (first | (go_at_call 25; refine (K1.out _).mono ?_; rintro e w' ⟨rfl, rfl⟩) | (go_at_call 30; refine (K4.out _).mono ?_; rintro e w' ⟨rfl, rfl⟩))
  go_region_with (go_at_call 26; refine (K2.out _).mono ?_; rintro e w' ⟨rfl, rfl⟩)
  all_goals go_wp2_with (go_at_call 31; refine (K5.out _).mono ?_; rintro e w2 ⟨rfl, hb⟩; obtain ⟨hc, hf⟩ := bcell hb; have hz : w.heap.size < w2.heap.size := by have := hb.size; simp at this; omega)
  all_goals go_region_with (go_at_call 14; refine (fault_calls _ _ _).mono ?_; rintro e w' ⟨rfl, rfl⟩)
  all_goals (try go_wp2)
  all_goals
    have e0 : Below w.heap.size w w2 := ((boxes w _ _).drew).trans (hb.mono (by simp))
    have h0 := (hb.block w.heap.size (by simp)).trans (heap_alloc_new w _)
    have h1 := block_set h0 2 (.int .i64 v)
    have e1 := e0.setCell (p := ⟨w.heap.size, 2, none⟩) (Nat.le_refl _) (.int .i64 v)
    have h2 := block_set h1 0 (.int .u8 2)
    have e2 := e1.setCell (p := ⟨w.heap.size, 0, none⟩) (Nat.le_refl _) (.int .u8 2)
    have h3 := block_set h2 1 (.string (q.extract 0 n))
    have e3 := e2.setCell (p := ⟨w.heap.size, 1, none⟩) (Nat.le_refl _) (.string (q.extract 0 n))
    have h4 := block_set h3 2 (.int .i64 v)
    have e4 := e3.setCell (p := ⟨w.heap.size, 2, none⟩) (Nat.le_refl _) (.int .i64 v)
    have h5 := block_set h4 3 (.int .i64 p)
    have e5 := e4.setCell (p := ⟨w.heap.size, 3, none⟩) (Nat.le_refl _) (.int .i64 p)
    exact token_end rfl rfl h5 (TokPost.fault (k := 2) (v := v) htok e5.drew)

set_option maxHeartbeats 2000000 in
theorem token_int1 (s : ByteArray) (p : Nat) (w : World) (hs : s.size ≤ 65536) (hp : p < s.size) (q : ByteArray) (hq : s.extract p s.size = q) (hq0 : 0 < q.size) (hl : Lx.letter q[0] = false) (hd : Lx.digit q[0] = true) (n : Nat) (hn : Hid (Lx.span Lx.digit q.data.toList = n)) (_hn0 : 0 < n) (hnq : n ≤ q.size) (v : Nat) (hv : Hid (Lx.value (q.data.toList.take n) = v)) (hmax : v ≤ 9223372036854775807) (h1 : ¬ 1 < n) (htok : Hid (Lx.tok q.data.toList = .ok (2, n, v))) :
    Calls Tryz.prog 16 #[.string s, .int .i64 p] w (TokPost q.data.toList p w) := by
  have hqs : q.size ≤ 65536 := by rw [← hq, extract_size]; omega
  have hlen : q.size ≤ maxLen := by unfold maxLen; omega
  have K1 := Lib.hid (fun w : World => (show Calls Tryz.prog 25 #[.int .u8 (q[0].toNat : Int)] w fun e w' => e = .returned (.bool false) ∧ w = w' by rw [← hl]; exact letter_calls _ w))
  have K4 := Lib.hid (fun w : World => (show Calls Tryz.prog 30 #[.int .u8 (q[0].toNat : Int)] w fun e w' => e = .returned (.bool true) ∧ w = w' by rw [← hd]; exact digit_calls _ w))
  have K2 := Lib.hid (fun w : World => (show Calls Tryz.prog 26 #[.string q, .func (.func 30) #[] #[]] w fun e w' => e = .returned (.int .i64 n) ∧ w = w' by rw [← hn.out]; exact span_digit q w hlen))
  have hxs : (q.extract 0 n).size = n := take_size q n hnq
  have hxd : Lx.allDigits (q.extract 0 n).data.toList := by rw [take_extract, ← hn.out]; exact Lx.span_digits _
  have hxn : (q.extract 0 n).data.toList ≠ [] := Lx.ne_nil _ (by omega)
  have hxv : Hid (Lx.value (q.extract 0 n).data.toList = v) := Lib.hid (by rw [take_extract]; exact hv.out)
  have K5 := Lib.hid (fun w : World => parse_ok (q.extract 0 n) w (by omega) hxd hxn v hxv hmax)
  clear hxs hxd hxn hxv
  clear hl hd
  go_enter Tryz.func16, Tryz.ntmps16
  go_wp2_with (first | (go_at_call 25; refine (K1.out _).mono ?_; rintro e w' ⟨rfl, rfl⟩) | (go_at_call 30; refine (K4.out _).mono ?_; rintro e w' ⟨rfl, rfl⟩))
  go_region_with (go_at_call 26; refine (K2.out _).mono ?_; rintro e w' ⟨rfl, rfl⟩)
  all_goals go_wp2_with (go_at_call 31; refine (K5.out _).mono ?_; rintro e w2 ⟨rfl, hb⟩; obtain ⟨hc, hf⟩ := bcell hb; have hz : w.heap.size < w2.heap.size := by have := hb.size; simp at this; omega)
  all_goals
    have e0 : Below w.heap.size w w2 := ((boxes w _ _).drew).trans (hb.mono (by simp))
    have h0 := (hb.block w.heap.size (by simp)).trans (heap_alloc_new w _)
    have h1 := block_set h0 2 (.int .i64 v)
    have e1 := e0.setCell (p := ⟨w.heap.size, 2, none⟩) (Nat.le_refl _) (.int .i64 v)
    have h2 := block_set h1 0 (.int .u8 2)
    have e2 := e1.setCell (p := ⟨w.heap.size, 0, none⟩) (Nat.le_refl _) (.int .u8 2)
    have h3 := block_set h2 1 (.string (q.extract 0 n))
    have e3 := e2.setCell (p := ⟨w.heap.size, 1, none⟩) (Nat.le_refl _) (.string (q.extract 0 n))
    have h4 := block_set h3 2 (.int .i64 v)
    have e4 := e3.setCell (p := ⟨w.heap.size, 2, none⟩) (Nat.le_refl _) (.int .i64 v)
    have h5 := block_set h4 3 (.int .i64 p)
    have e5 := e4.setCell (p := ⟨w.heap.size, 3, none⟩) (Nat.le_refl _) (.int .i64 p)
    exact token_end rfl rfl h5 (TokPost.token (k := 2) (v := v) htok (take_extract q n) e5)

set_option maxHeartbeats 2000000 in
theorem token_int2 (s : ByteArray) (p : Nat) (w : World) (hs : s.size ≤ 65536) (hp : p < s.size) (q : ByteArray) (hq : s.extract p s.size = q) (hq0 : 0 < q.size) (hl : Lx.letter q[0] = false) (hd : Lx.digit q[0] = true) (n : Nat) (hn : Hid (Lx.span Lx.digit q.data.toList = n)) (_hn0 : 0 < n) (hnq : n ≤ q.size) (v : Nat) (hv : Hid (Lx.value (q.data.toList.take n) = v)) (hmax : v ≤ 9223372036854775807) (h1 : 1 < n) (hz0 : q[0] ≠ 48) (htok : Hid (Lx.tok q.data.toList = .ok (2, n, v))) :
    Calls Tryz.prog 16 #[.string s, .int .i64 p] w (TokPost q.data.toList p w) := by
  have hqs : q.size ≤ 65536 := by rw [← hq, extract_size]; omega
  have hlen : q.size ≤ maxLen := by unfold maxLen; omega
  have K1 := Lib.hid (fun w : World => (show Calls Tryz.prog 25 #[.int .u8 (q[0].toNat : Int)] w fun e w' => e = .returned (.bool false) ∧ w = w' by rw [← hl]; exact letter_calls _ w))
  have K4 := Lib.hid (fun w : World => (show Calls Tryz.prog 30 #[.int .u8 (q[0].toNat : Int)] w fun e w' => e = .returned (.bool true) ∧ w = w' by rw [← hd]; exact digit_calls _ w))
  have K2 := Lib.hid (fun w : World => (show Calls Tryz.prog 26 #[.string q, .func (.func 30) #[] #[]] w fun e w' => e = .returned (.int .i64 n) ∧ w = w' by rw [← hn.out]; exact span_digit q w hlen))
  have hxs : (q.extract 0 n).size = n := take_size q n hnq
  have hxd : Lx.allDigits (q.extract 0 n).data.toList := by rw [take_extract, ← hn.out]; exact Lx.span_digits _
  have hxn : (q.extract 0 n).data.toList ≠ [] := Lx.ne_nil _ (by omega)
  have hxv : Hid (Lx.value (q.extract 0 n).data.toList = v) := Lib.hid (by rw [take_extract]; exact hv.out)
  have K5 := Lib.hid (fun w : World => parse_ok (q.extract 0 n) w (by omega) hxd hxn v hxv hmax)
  clear hxs hxd hxn hxv
  have hx0 : ((q[0].toNat : Int) == 48) = false := by
    rw [beq_eq_false_iff_ne]
    intro e
    have e2 : q[0].toNat = (48 : UInt8).toNat := by have : (48 : UInt8).toNat = 48 := rfl; omega
    exact hz0 (UInt8.toNat_inj.1 e2)
  clear hz0
  clear hl hd
  go_enter Tryz.func16, Tryz.ntmps16
  go_wp2_with (first | (go_at_call 25; refine (K1.out _).mono ?_; rintro e w' ⟨rfl, rfl⟩) | (go_at_call 30; refine (K4.out _).mono ?_; rintro e w' ⟨rfl, rfl⟩))
  go_region_with (go_at_call 26; refine (K2.out _).mono ?_; rintro e w' ⟨rfl, rfl⟩)
  all_goals go_wp2_with (go_at_call 31; refine (K5.out _).mono ?_; rintro e w2 ⟨rfl, hb⟩; obtain ⟨hc, hf⟩ := bcell hb; have hz : w.heap.size < w2.heap.size := by have := hb.size; simp at this; omega)
  all_goals
    have e0 : Below w.heap.size w w2 := ((boxes w _ _).drew).trans (hb.mono (by simp))
    have h0 := (hb.block w.heap.size (by simp)).trans (heap_alloc_new w _)
    have h1 := block_set h0 2 (.int .i64 v)
    have e1 := e0.setCell (p := ⟨w.heap.size, 2, none⟩) (Nat.le_refl _) (.int .i64 v)
    have h2 := block_set h1 0 (.int .u8 2)
    have e2 := e1.setCell (p := ⟨w.heap.size, 0, none⟩) (Nat.le_refl _) (.int .u8 2)
    have h3 := block_set h2 1 (.string (q.extract 0 n))
    have e3 := e2.setCell (p := ⟨w.heap.size, 1, none⟩) (Nat.le_refl _) (.string (q.extract 0 n))
    have h4 := block_set h3 2 (.int .i64 v)
    have e4 := e3.setCell (p := ⟨w.heap.size, 2, none⟩) (Nat.le_refl _) (.int .i64 v)
    have h5 := block_set h4 3 (.int .i64 p)
    have e5 := e4.setCell (p := ⟨w.heap.size, 3, none⟩) (Nat.le_refl _) (.int .i64 p)
    exact token_end rfl rfl h5 (TokPost.token (k := 2) (v := v) htok (take_extract q n) e5)

set_option maxHeartbeats 2000000 in
theorem token_none (s : ByteArray) (p : Nat) (w : World) (hs : s.size ≤ 65536) (hp : p < s.size) (q : ByteArray) (hq : s.extract p s.size = q) (hq0 : 0 < q.size) (hl : Lx.letter q[0] = false) (hd : Lx.digit q[0] = false) (n : Nat) (hn : Hid (Lx.sign q.data.toList = n)) (hnq : n ≤ q.size) (h0n : n = 0) (htok : Hid (Lx.tok q.data.toList = .error 30)) :
    Calls Tryz.prog 16 #[.string s, .int .i64 p] w (TokPost q.data.toList p w) := by
  have hqs : q.size ≤ 65536 := by rw [← hq, extract_size]; omega
  have hlen : q.size ≤ maxLen := by unfold maxLen; omega
  have K1 := Lib.hid (fun w : World => (show Calls Tryz.prog 25 #[.int .u8 (q[0].toNat : Int)] w fun e w' => e = .returned (.bool false) ∧ w = w' by rw [← hl]; exact letter_calls _ w))
  have K4 := Lib.hid (fun w : World => (show Calls Tryz.prog 30 #[.int .u8 (q[0].toNat : Int)] w fun e w' => e = .returned (.bool false) ∧ w = w' by rw [← hd]; exact digit_calls _ w))
  have K6 := Lib.hid (fun w : World => (show Calls Tryz.prog 32 #[.string q] w fun e w' => e = .returned (.int .i64 n) ∧ Below w.heap.size w w' by rw [← hn.out]; exact sign_calls q w hq0))
  have hte : (q.extract 0 n).toList = [] := by rw [Lib.toList_data, take_extract, h0n]; rfl
  clear h0n
  clear hl hd
  go_enter Tryz.func16, Tryz.ntmps16
  go_wp2_with (first | (go_at_call 25; refine (K1.out _).mono ?_; rintro e w' ⟨rfl, rfl⟩) | (go_at_call 30; refine (K4.out _).mono ?_; rintro e w' ⟨rfl, rfl⟩) | (go_at_call 32; refine (K6.out _).mono ?_; rintro e w2 ⟨rfl, hb⟩; obtain ⟨hc, hf⟩ := bcell hb; have hz : w.heap.size < w2.heap.size := by have := hb.size; simp at this; omega))
  go_region_with (go_at_call 14; refine (fault_calls _ _ _).mono ?_; rintro e w' ⟨rfl, rfl⟩)
  all_goals (try go_wp2)
  all_goals
    have e0 : Below w.heap.size w w2 := (boxes w _ _).trans (hb.mono (by simp))
    have h0 := (hb.block w.heap.size (by simp)).trans (heap_alloc_new w _)
    have h1 := block_set h0 1 (.string (q.extract 0 n))
    have e1 := e0.setCell (p := ⟨w.heap.size, 1, none⟩) (Nat.le_refl _) (.string (q.extract 0 n))
    have h2 := block_set h1 0 (.int .u8 4)
    have e2 := e1.setCell (p := ⟨w.heap.size, 0, none⟩) (Nat.le_refl _) (.int .u8 4)
    have h3 := block_set h2 1 (.string (q.extract 0 n))
    have e3 := e2.setCell (p := ⟨w.heap.size, 1, none⟩) (Nat.le_refl _) (.string (q.extract 0 n))
    have h4 := block_set h3 2 (.int .i64 0)
    have e4 := e3.setCell (p := ⟨w.heap.size, 2, none⟩) (Nat.le_refl _) (.int .i64 0)
    have h5 := block_set h4 3 (.int .i64 p)
    have e5 := e4.setCell (p := ⟨w.heap.size, 3, none⟩) (Nat.le_refl _) (.int .i64 p)
    exact token_end rfl rfl h5 (TokPost.fault (k := 4) (v := 0) htok e5.drew)

set_option maxHeartbeats 2000000 in
theorem token_sign (s : ByteArray) (p : Nat) (w : World) (hs : s.size ≤ 65536) (hp : p < s.size) (q : ByteArray) (hq : s.extract p s.size = q) (hq0 : 0 < q.size) (hl : Lx.letter q[0] = false) (hd : Lx.digit q[0] = false) (n : Nat) (hn : Hid (Lx.sign q.data.toList = n)) (hnq : n ≤ q.size) (h0n : 0 < n) (htok : Hid (Lx.tok q.data.toList = .ok (4, n, 0))) :
    Calls Tryz.prog 16 #[.string s, .int .i64 p] w (TokPost q.data.toList p w) := by
  have hqs : q.size ≤ 65536 := by rw [← hq, extract_size]; omega
  have hlen : q.size ≤ maxLen := by unfold maxLen; omega
  have K1 := Lib.hid (fun w : World => (show Calls Tryz.prog 25 #[.int .u8 (q[0].toNat : Int)] w fun e w' => e = .returned (.bool false) ∧ w = w' by rw [← hl]; exact letter_calls _ w))
  have K4 := Lib.hid (fun w : World => (show Calls Tryz.prog 30 #[.int .u8 (q[0].toNat : Int)] w fun e w' => e = .returned (.bool false) ∧ w = w' by rw [← hd]; exact digit_calls _ w))
  have K6 := Lib.hid (fun w : World => (show Calls Tryz.prog 32 #[.string q] w fun e w' => e = .returned (.int .i64 n) ∧ Below w.heap.size w w' by rw [← hn.out]; exact sign_calls q w hq0))
  have hte : (q.extract 0 n).toList.isEmpty = false := by
    rw [Lib.toList_data]
    have := Lx.ne_nil (q.extract 0 n) (by rw [take_size q n hnq]; exact h0n)
    revert this
    cases (q.extract 0 n).data.toList <;> simp
  have hte2 : ¬ (q.extract 0 n).toList = [] := by rw [Lib.toList_data]; exact Lx.ne_nil _ (by rw [take_size q n hnq]; exact h0n)
  clear hl hd
  go_enter Tryz.func16, Tryz.ntmps16
  go_wp2_with (first | (go_at_call 25; refine (K1.out _).mono ?_; rintro e w' ⟨rfl, rfl⟩) | (go_at_call 30; refine (K4.out _).mono ?_; rintro e w' ⟨rfl, rfl⟩) | (go_at_call 32; refine (K6.out _).mono ?_; rintro e w2 ⟨rfl, hb⟩; obtain ⟨hc, hf⟩ := bcell hb; have hz : w.heap.size < w2.heap.size := by have := hb.size; simp at this; omega))
  all_goals
    have e0 : Below w.heap.size w w2 := (boxes w _ _).trans (hb.mono (by simp))
    have h0 := (hb.block w.heap.size (by simp)).trans (heap_alloc_new w _)
    have h1 := block_set h0 1 (.string (q.extract 0 n))
    have e1 := e0.setCell (p := ⟨w.heap.size, 1, none⟩) (Nat.le_refl _) (.string (q.extract 0 n))
    have h2 := block_set h1 0 (.int .u8 4)
    have e2 := e1.setCell (p := ⟨w.heap.size, 0, none⟩) (Nat.le_refl _) (.int .u8 4)
    have h3 := block_set h2 1 (.string (q.extract 0 n))
    have e3 := e2.setCell (p := ⟨w.heap.size, 1, none⟩) (Nat.le_refl _) (.string (q.extract 0 n))
    have h4 := block_set h3 2 (.int .i64 0)
    have e4 := e3.setCell (p := ⟨w.heap.size, 2, none⟩) (Nat.le_refl _) (.int .i64 0)
    have h5 := block_set h4 3 (.int .i64 p)
    have e5 := e4.setCell (p := ⟨w.heap.size, 3, none⟩) (Nat.le_refl _) (.int .i64 p)
    exact token_end rfl rfl h5 (TokPost.token (k := 4) (v := 0) htok (take_extract q n) e5)
end Go.Proofs.YtlkedogplmnpkaaGreatDoor
