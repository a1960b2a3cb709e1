/- 
  The document's own 'token': at a letter.
-/
import Derived.Test.YtlkedogplmnpkaaGreatDoorLexRb
import Derived.Test.YtlkedogplmnpkaaGreatDoorLexG
import Derived.Test.YtlkedogplmnpkaaGreatDoorLexT
namespace Go.Proofs.YtlkedogplmnpkaaGreatDoor
open Go.RowKit

/-- What the document's token hands back: the token and no error's number, or the error's number. -/
def RefPost (l : List UInt8) (p : Int) (w : World) (e : Ending) (w' : World) : Prop :=
  Below w.heap.size w w' ∧ match Lx.tok l with
    | .error c => ∃ (k : Int) (x : ByteArray) (v q : Int), e = .returned (.tuple #[.agg #[.int .u8 k, .string x, .int .i64 v, .int .i64 q], .int .i64 c])
    | .ok (k, n, v) => e = .returned (.tuple #[.agg #[.int .u8 k, .string ⟨(l.take n).toArray⟩, .int .i64 v, .int .i64 p], .int .i64 0])
theorem RefPost.fault {l : List UInt8} {p : Int} {w w' : World} {k v q : Int} {x : ByteArray} {c : Nat} (h : Hid (Lx.tok l = .error c)) (hb : Below w.heap.size w w') :
    RefPost l p w (.returned (.tuple #[.agg #[.int .u8 k, .string x, .int .i64 v, .int .i64 q], .int .i64 c])) w' :=
  ⟨hb, by rw [h.out]; exact ⟨k, x, v, q, rfl⟩⟩
theorem RefPost.token {l : List UInt8} {p : Int} {w w' : World} {k v n : Nat} {x : ByteArray} (h : Hid (Lx.tok l = .ok (k, n, v))) (hx : x.data.toList = l.take n) (hb : Below w.heap.size w w') :
    RefPost l p w (.returned (.tuple #[.agg #[.int .u8 k, .string x, .int .i64 v, .int .i64 p], .int .i64 0])) w' :=
  ⟨hb, by rw [h.out]; obtain rfl : x = ⟨(l.take n).toArray⟩ := WideShapes.bytes_inj (by rw [hx]); rfl⟩
theorem refToken_end {l : List UInt8} {p : Int} {w W : World} {tmps : Array Value} {g : Nat} {k v q : Int} {x : ByteArray} {err : Value} (h4 : tmps.getD 4 undef = .pointer (some ⟨g, 0, none⟩)) (h5 : tmps.getD 5 undef = err)
    (hB : W.heap[g]? = some (.cells #[.int .u8 k, .string x, .int .i64 v, .int .i64 q] 39 (0, 0))) (hpost : RefPost l p w (.returned (.tuple #[.agg #[.int .u8 k, .string x, .int .i64 v, .int .i64 q], err])) W) :
    bodyPost Tryz.prog Tryz.f18 (RefPost l p w) Exit.ret { tmps := tmps, defers := [] } W := by
  have c0 := cell_of_row W g 0 _ _ _ hB
  have c1 := cell_of_row W g 1 _ _ _ hB
  have c2 := cell_of_row W g 2 _ _ _ hB
  have c3 := cell_of_row W g 3 _ _ _ hB
  refine bodyPost_ret (v := .tuple #[.agg #[.int .u8 k, .string x, .int .i64 v, .int .i64 q], err]) ?_ rfl hpost
  simp only [Array.getD_eq_getD_getElem?] at h4 h5
  simp [results, Tryz.results18, go_sem, h4, h5, c0, c1, c2, c3]
theorem four_set {W : World} {g : Nat} {t : TypeId} {a b c d : Value} (h0 : W.heap[g]? = some (.cells #[a, b, c, d] t (0, 0))) (x0 x1 x2 x3 : Value) :
    ((((W.setCell ⟨g, 0, none⟩ x0).setCell ⟨g, 1, none⟩ x1).setCell ⟨g, 2, none⟩ x2).setCell ⟨g, 3, none⟩ x3).heap[g]? = some (.cells #[x0, x1, x2, x3] t (0, 0)) :=
  block_set (block_set (block_set (block_set h0 0 x0) 1 x1) 2 x2) 3 x3
theorem four_below {w W : World} {g : Nat} (e0 : Below g w W) (x0 x1 x2 x3 : Value) : Below g w ((((W.setCell ⟨g, 0, none⟩ x0).setCell ⟨g, 1, none⟩ x1).setCell ⟨g, 2, none⟩ x2).setCell ⟨g, 3, none⟩ x3) :=
  (((e0.setCell (p := ⟨g, 0, none⟩) (Nat.le_refl _) x0).setCell (p := ⟨g, 1, none⟩) (Nat.le_refl _) x1).setCell (p := ⟨g, 2, none⟩) (Nat.le_refl _) x2).setCell (p := ⟨g, 3, none⟩) (Nat.le_refl _) x3
theorem drop_extract (s : ByteArray) (p n : Nat) : (s.extract p (p + n)).data.toList = (s.data.toList.drop p).take n := by simp

set_option maxHeartbeats 2000000 in
set_option maxRecDepth 100000 in
theorem refToken_letter (s : ByteArray) (p : Nat) (w : World) (hs : s.size ≤ 65536) (hp : p < s.size) (hl : Lx.letter s[p] = true) :
    Calls Tryz.prog 18 #[.string s, .int .i64 p] w (RefPost (s.data.toList.drop p) p w) := by
  have hhead : Lx.letter ((s.data.toList.drop p).headD 0) = true := by rw [Lx.drop_cons s p hp]; exact hl
  have hT1 := Lib.hid (fun h => Lx.tok_long hhead h)
  have hT2 := Lib.hid (fun h => Lx.tok_name hhead h)
  have K1 := Lib.hid (fun w : World => (show Calls Tryz.prog 33 #[.int .u8 (s[p].toNat : Int)] w fun e w' => e = .returned (.bool true) ∧ w = w' by rw [← hl]; exact refLetter_calls _ w))
  clear hhead hl
  have hle := Lx.span_le Lx.named (s.data.toList.drop p)
  rw [List.length_drop, Lx.len] at hle
  obtain ⟨n, hn⟩ : ∃ n, Lx.span Lx.named (s.data.toList.drop p) = n := ⟨_, rfl⟩
  rw [hn] at hT1 hT2 hle
  have HN := Lib.hid hn
  clear hn
  go_enter Tryz.func18, Tryz.ntmps18
  go_wp2_with (go_at_call 33; refine (K1.out _).mono ?_; rintro e w' ⟨rfl, rfl⟩)
  clear K1
  go_loop [6] (fun i => ∃ k : Nat, k ≤ s.size ∧ p ≤ k ∧ i = .int .i64 k ∧ Hid (p + n = k + Lx.span Lx.named (s.data.toList.drop k))) (fun i => s.size - (intOf i).toNat)
  case atStart => exact ⟨p, by omega, Nat.le_refl _, rfl, Lib.hid (by rw [HN.out])⟩
  case round =>
    obtain ⟨k, hk, hpk, rfl, hsp⟩ := hrel
    by_cases hlt : k < s.size
    · obtain ⟨x, hx⟩ : ∃ x, Lx.letter s[k] = x := ⟨_, rfl⟩
      obtain ⟨y, hy⟩ : ∃ y, Lx.digit s[k] = y := ⟨_, rfl⟩
      have hn : Hid (Lx.named s[k] = (x || y)) := Lib.hid (by rw [Lx.named, hx, hy])
      have hd := Lib.hid (Lx.drop_cons s k hlt)
      have K3 := Lib.hid (fun w : World => (show Calls Tryz.prog 33 #[.int .u8 (s[k].toNat : Int)] w fun e w' => e = .returned (.bool x) ∧ w = w' by rw [← hx]; exact refLetter_calls _ w))
      have K4 := Lib.hid (fun w : World => (show Calls Tryz.prog 34 #[.int .u8 (s[k].toNat : Int)] w fun e w' => e = .returned (.bool y) ∧ w = w' by rw [← hy]; exact refDigit_calls _ w))
      clear hx hy
      cases x <;> cases y
      · have hz : Hid (Lx.span Lx.named (s.data.toList.drop k) = 0) := Lib.hid (by rw [hd.out, Lx.span_miss hn.out])
        have hcl : Hid (k = p + n) := Lib.hid (by have h1 := hsp.out; rw [hz.out] at h1; omega)
        obtain rfl := hcl.out
        clear hsp hcl
        have hsub : ((p + n : Nat) : Int) - (p : Int) = (n : Int) := by omega
        have hsub2 : (p : Int) + (n : Int) - (p : Int) = (n : Int) := by omega
        by_cases h32 : 32 < n
        · have htok := Lib.hid (hT1.out h32)
          clear hT1 hT2
          go_wp2_with (first | (go_at_call 33; refine (K3.out _).mono ?_; rintro e w' ⟨rfl, rfl⟩) | (go_at_call 34; refine (K4.out _).mono ?_; rintro e w' ⟨rfl, rfl⟩))
          exact refToken_end rfl rfl (heap_alloc_new w _) (RefPost.fault htok (boxes w _ _))
        · obtain ⟨x, hx⟩ : ∃ x, s.extract p (p + n) = x := ⟨_, rfl⟩
          have hx1 : s.extract p ((p : Int) + (n : Int)).toNat = x := by rw [show ((p : Int) + (n : Int)).toNat = p + n from by omega]; exact hx
          have hxd := Lib.hid (show x.data.toList = (s.data.toList.drop p).take n by rw [← hx, drop_extract])
          have hxs : x.size ≤ 65536 := by rw [← Lx.len, hxd.out, List.length_take, List.length_drop, Lx.len]; omega
          obtain ⟨b, hb⟩ : ∃ b, Lx.word ((s.data.toList.drop p).take n) = b := ⟨_, rfl⟩
          have htok := hT2.out h32
          rw [hb] at htok
          have htok := Lib.hid htok
          have KW := Lib.hid (fun w : World => (show Calls Tryz.prog 35 #[.string x] w fun e w' => e = .returned (.bool b) ∧ Below w.heap.size w w' by rw [← hb, ← hxd.out]; exact refWord_calls x w))
          clear hT1 hT2 hb
          cases b
          · go_wp2_with (first | (go_at_call 33; refine (K3.out _).mono ?_; rintro e w' ⟨rfl, rfl⟩) | (go_at_call 34; refine (K4.out _).mono ?_; rintro e w' ⟨rfl, rfl⟩) | (go_at_call 35; refine (KW.out _).mono ?_; rintro e w2 ⟨rfl, hb⟩; obtain ⟨hc, hf⟩ := bcell hb; have hz : w.heap.size + 1 < w2.heap.size := by have := hb.size; simp at this; omega))
            have e0 : Below w.heap.size w w2 := (((Below.refl _ _).alloc (Nat.le_refl _) _).alloc (by simp) _).trans (hb.mono (by simp; omega))
            have h0 := (hb.block w.heap.size (by simp; omega)).trans ((Below.heap_alloc _ _ w.heap.size (by simp)).trans (heap_alloc_new w _))
            exact refToken_end rfl rfl (four_set h0 (.int .u8 1) (.string x) (.int .i64 0) (.int .i64 p)) (RefPost.token (k := 1) (v := 0) htok hxd.out (four_below e0 _ _ _ _))
          · go_wp2_with (first | (go_at_call 33; refine (K3.out _).mono ?_; rintro e w' ⟨rfl, rfl⟩) | (go_at_call 34; refine (K4.out _).mono ?_; rintro e w' ⟨rfl, rfl⟩) | (go_at_call 35; refine (KW.out _).mono ?_; rintro e w2 ⟨rfl, hb⟩; obtain ⟨hc, hf⟩ := bcell hb; have hz : w.heap.size + 1 < w2.heap.size := by have := hb.size; simp at this; omega))
            have e0 : Below w.heap.size w w2 := (((Below.refl _ _).alloc (Nat.le_refl _) _).alloc (by simp) _).trans (hb.mono (by simp; omega))
            have h0 := (hb.block w.heap.size (by simp; omega)).trans ((Below.heap_alloc _ _ w.heap.size (by simp)).trans (heap_alloc_new w _))
            have e1 := e0.setCell (p := ⟨w.heap.size + 1, 0, none⟩) (by simp) (.int .u8 3)
            have h1 := (Below.heap_setCell w2 ⟨w.heap.size + 1, 0, none⟩ (.int .u8 3) w.heap.size (by simp)).trans h0
            exact refToken_end rfl rfl (four_set h1 (.int .u8 3) (.string x) (.int .i64 0) (.int .i64 p)) (RefPost.token (k := 3) (v := 0) htok hxd.out (four_below e1 _ _ _ _))
      all_goals
        go_wp2_with (first | (go_at_call 33; refine (K3.out _).mono ?_; rintro e w' ⟨rfl, rfl⟩) | (go_at_call 34; refine (K4.out _).mono ?_; rintro e w' ⟨rfl, rfl⟩))
        go_round
        case rel => exact ⟨k + 1, by omega, by omega, by go_num, Lib.hid (by rw [hsp.out, hd.out, Lx.span_hit hn.out]; omega)⟩
        case measure => simp [intOf]; omega
    · have hz : Hid (Lx.span Lx.named (s.data.toList.drop k) = 0) := Lib.hid (by rw [Lx.drop_end s k (by omega)]; rfl)
      have hcl : Hid (k = p + n) := Lib.hid (by have h1 := hsp.out; rw [hz.out] at h1; omega)
      obtain rfl := hcl.out
      clear hsp hcl
      have hsub : ((p + n : Nat) : Int) - (p : Int) = (n : Int) := by omega
      have hsub2 : (p : Int) + (n : Int) - (p : Int) = (n : Int) := by omega
      by_cases h32 : 32 < n
      · have htok := Lib.hid (hT1.out h32)
        clear hT1 hT2
        go_wp2
        exact refToken_end rfl rfl (heap_alloc_new w _) (RefPost.fault htok (boxes w _ _))
      · obtain ⟨x, hx⟩ : ∃ x, s.extract p (p + n) = x := ⟨_, rfl⟩
        have hx1 : s.extract p ((p : Int) + (n : Int)).toNat = x := by rw [show ((p : Int) + (n : Int)).toNat = p + n from by omega]; exact hx
        have hxd := Lib.hid (show x.data.toList = (s.data.toList.drop p).take n by rw [← hx, drop_extract])
        have hxs : x.size ≤ 65536 := by rw [← Lx.len, hxd.out, List.length_take, List.length_drop, Lx.len]; omega
        obtain ⟨b, hb⟩ : ∃ b, Lx.word ((s.data.toList.drop p).take n) = b := ⟨_, rfl⟩
        have htok := hT2.out h32
        rw [hb] at htok
        have htok := Lib.hid htok
        have KW := Lib.hid (fun w : World => (show Calls Tryz.prog 35 #[.string x] w fun e w' => e = .returned (.bool b) ∧ Below w.heap.size w w' by rw [← hb, ← hxd.out]; exact refWord_calls x w))
        clear hT1 hT2 hb
        cases b
        · go_wp2_with ((go_at_call 35; refine (KW.out _).mono ?_; rintro e w2 ⟨rfl, hb⟩; obtain ⟨hc, hf⟩ := bcell hb; have hz : w.heap.size + 1 < w2.heap.size := by have := hb.size; simp at this; omega))
          have e0 : Below w.heap.size w w2 := (((Below.refl _ _).alloc (Nat.le_refl _) _).alloc (by simp) _).trans (hb.mono (by simp; omega))
          have h0 := (hb.block w.heap.size (by simp; omega)).trans ((Below.heap_alloc _ _ w.heap.size (by simp)).trans (heap_alloc_new w _))
          exact refToken_end rfl rfl (four_set h0 (.int .u8 1) (.string x) (.int .i64 0) (.int .i64 p)) (RefPost.token (k := 1) (v := 0) htok hxd.out (four_below e0 _ _ _ _))
        · go_wp2_with ((go_at_call 35; refine (KW.out _).mono ?_; rintro e w2 ⟨rfl, hb⟩; obtain ⟨hc, hf⟩ := bcell hb; have hz : w.heap.size + 1 < w2.heap.size := by have := hb.size; simp at this; omega))
          have e0 : Below w.heap.size w w2 := (((Below.refl _ _).alloc (Nat.le_refl _) _).alloc (by simp) _).trans (hb.mono (by simp; omega))
          have h0 := (hb.block w.heap.size (by simp; omega)).trans ((Below.heap_alloc _ _ w.heap.size (by simp)).trans (heap_alloc_new w _))
          have e1 := e0.setCell (p := ⟨w.heap.size + 1, 0, none⟩) (by simp) (.int .u8 3)
          have h1 := (Below.heap_setCell w2 ⟨w.heap.size + 1, 0, none⟩ (.int .u8 3) w.heap.size (by simp)).trans h0
          exact refToken_end rfl rfl (four_set h1 (.int .u8 3) (.string x) (.int .i64 0) (.int .i64 p)) (RefPost.token (k := 3) (v := 0) htok hxd.out (four_below e1 _ _ _ _))
end Go.Proofs.YtlkedogplmnpkaaGreatDoor
