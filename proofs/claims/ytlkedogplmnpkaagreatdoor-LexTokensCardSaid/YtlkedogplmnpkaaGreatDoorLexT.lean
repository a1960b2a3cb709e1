/-
  Tokens of package lex: which tokens a source has, or which fault.
-/
import Derived.Test.YtlkedogplmnpkaaGreatDoorLexH
namespace Go.Proofs.YtlkedogplmnpkaaGreatDoor
open Go.RowKit

def tokCells (t : Lx.T) : List Value := [.int .u8 t.kind, .string ⟨t.text.toArray⟩, .int .i64 t.int, .int .i64 t.pos]
def cellsOf (l : List Lx.T) : List Value := l.flatMap tokCells
theorem cellsOf_snoc (l : List Lx.T) (t : Lx.T) : cellsOf (l ++ [t]) = cellsOf l ++ tokCells t := by simp [cellsOf]
/-- What Tokens hands back: the tokens in memory of its own, or no token and the fault. -/
def ToksPost (l : List UInt8) (w : World) (e : Ending) (w' : World) : Prop :=
  Below w.heap.size w w' ∧ match Lx.tokens l with
    | .error (p, c) => e = .returned (.tuple #[.slice none 0 0, wrong p c])
    | .ok ts => ∃ v, e = .returned (.tuple #[v, .nilIface]) ∧ w'.ownsRow w.heap.size 39 4 v ts.length (cellsOf ts)
theorem ToksPost.fault {l : List UInt8} {w w' : World} {p c : Nat} (h : Hid (Lx.tokens l = .error (p, c))) (hb : Below w.heap.size w w') :
    ToksPost l w (.returned (.tuple #[.slice none 0 0, wrong p c])) w' := ⟨hb, by rw [h.out]⟩
theorem ToksPost.tokens {l : List UInt8} {w w' : World} {ts : List Lx.T} {v : Value} {n : Nat} (h : Hid (Lx.tokens l = .ok ts)) (hb : Below w.heap.size w w') (hn : n = ts.length) (ho : w'.ownsRow w.heap.size 39 4 v n (cellsOf ts)) :
    ToksPost l w (.returned (.tuple #[v, .nilIface])) w' := ⟨hb, by rw [h.out]; subst hn; exact ⟨v, rfl, ho⟩⟩

namespace Lx
/-- What is still to come, put behind what there is. -/
def after (acc : List T) : Except (Nat × Nat) (List T) → Except (Nat × Nat) (List T)
  | .error e => .error e
  | .ok ts => .ok (acc ++ ts)
theorem after_nil (r : Except (Nat × Nat) (List T)) : after [] r = r := by cases r <;> rfl
theorem toks_end (f p n : Nat) : toks (f + 1) [] p n = .ok [⟨0, [], 0, p⟩] := rfl
theorem toks_bad {l : List UInt8} (h : l ≠ []) {e : Nat} (ht : tok l = .error e) (f p n : Nat) : toks (f + 1) l p n = .error (p, e) := by
  simp only [toks]; rw [if_neg h, ht]
theorem toks_full {l : List UInt8} (h : l ≠ []) {x : Nat × Nat × Nat} (ht : tok l = .ok x) (f p n : Nat) (hn : 16384 ≤ n + 1) : toks (f + 1) l p n = .error (p, 6) := by
  obtain ⟨k, m, v⟩ := x
  simp only [toks]; rw [if_neg h, ht]; simp only; rw [if_pos hn]
theorem toks_more {l : List UInt8} (h : l ≠ []) {k m v : Nat} (ht : tok l = .ok (k, m, v)) (f p n : Nat) (hn : n + 1 < 16384) (acc : List T) :
    after acc (toks (f + 1) l p n) = after (acc ++ [⟨k, l.take m, v, p⟩]) (toks f ((l.drop m).drop (skip false (l.drop m))) (p + m + skip false (l.drop m)) (n + 1)) := by
  simp only [toks]; rw [if_neg h, ht]; simp only; rw [if_neg (by omega)]
  cases toks f ((l.drop m).drop (skip false (l.drop m))) (p + m + skip false (l.drop m)) (n + 1) with
  | error e => rfl
  | ok ts => simp [after]
theorem tok_pos {l : List UInt8} (h : l ≠ []) {k m v : Nat} (ht : tok l = .ok (k, m, v)) : 0 < m ∧ m ≤ l.length := by
  have s1 := span_le named l
  have s2 := span_le digit l
  have s3 := sign_le l
  obtain ⟨c, r, rfl⟩ := List.exists_cons_of_ne_nil h
  have hh : (c :: r).headD 0 = c := rfl
  cases hl : letter c with
  | true =>
    have hl' : letter ((c :: r).headD 0) = true := hl
    by_cases h32 : 32 < span named (c :: r)
    · rw [tok_long hl' h32] at ht; cases ht
    · rw [tok_name hl' h32] at ht
      have e : span named (c :: r) = m := by injection ht with ht; injection ht with _ ht; injection ht
      have : named c = true := by simp [named, hl]
      rw [span_hit this] at e s1
      omega
  | false =>
    cases hd : digit c with
    | true =>
      rw [tok_digits (l := c :: r) hl hd] at ht
      split at ht
      · cases ht
      · have e : span digit (c :: r) = m := by injection ht with ht; injection ht with _ ht; injection ht
        rw [span_hit hd] at e s2
        omega
    | false =>
      rw [tok_sign (l := c :: r) hl hd] at ht
      split at ht
      · cases ht
      · rename_i hne
        have e : sign (c :: r) = m := by injection ht with ht; injection ht with _ ht; injection ht
        have : sign (c :: r) ≠ 0 := by simpa using hne
        omega
end Lx

theorem own_below {w w1 : World} {base : Nat} {e : TypeId} {size n : Nat} {v : Value} {xs : List Value} (h : w.ownsRow base e size v n xs) (hb : Below w.heap.size w w1) : w1.ownsRow base e size v n xs := by
  obtain ⟨h1, h2⟩ := h
  refine ⟨h1, ?_⟩
  rcases h2 with h2 | ⟨g, cap, cur, h3, h4, h5, h6⟩
  · exact .inl h2
  · exact .inr ⟨g, cap, cur, h3, h4, (hb.block g (Array.getElem?_eq_some_iff.1 h5).1).trans h5, h6⟩
theorem own_slice {w : World} {base : Nat} {e : TypeId} {size n : Nat} {v : Value} {xs : List Value} (h : w.ownsRow base e size v n xs) : ∃ A c, v = .slice A n c := by
  rcases h.2 with ⟨h2, rfl⟩ | ⟨g, cap, _, h3, _⟩
  · exact ⟨none, 0, h2⟩
  · exact ⟨_, _, h3⟩
theorem own_base {w : World} {base : Nat} {e : TypeId} {size n : Nat} {v : Value} {xs : List Value} (h : w.ownsRow base e size v n xs) (k : Nat) (hk : v.ownBlock = some k) : base ≤ k := by
  rcases h.2 with ⟨rfl, _⟩ | ⟨g, cap, _, rfl, hg, _⟩
  · simp [Value.ownBlock] at hk
  · simp [Value.ownBlock] at hk; omega
theorem news4 (W : World) (n : Nat) (hn : n = W.heap.size) (c0 c1 c2 c3 : Value) (t : TypeId) : ∀ (j : Nat) (u : Value), [c0, c1, c2, c3][j]? = some u → (W.alloc (.cells #[c0, c1, c2, c3] t)).cell? (Addr.add ⟨n, 0, none⟩ j) = some u := by
  intro j u hj
  have e : (Addr.add ⟨n, 0, none⟩ j : Addr) = ⟨n, j, none⟩ := by unfold Addr.add; split <;> simp_all
  rw [e, World.cell?_alloc_at _ _ _ _ hn]
  simpa using hj
theorem one4 (k x v a : Value) (h : k.oneCell' = true ∧ x.oneCell' = true ∧ v.oneCell' = true ∧ a.oneCell' = true) : ∀ u ∈ [k, x, v, a], u.oneCell' = true := by
  intro u hu
  simp at hu
  rcases hu with rfl | rfl | rfl | rfl
  · exact h.1
  · exact h.2.1
  · exact h.2.2.1
  · exact h.2.2.2
theorem ownBlock_lt {w : World} {base : Nat} {e : TypeId} {size n : Nat} {v : Value} {xs : List Value} (h : w.ownsRow base e size v n xs) (k : Nat) (hk : v.ownBlock = some k) : k < w.heap.size := by
  rcases h.2 with ⟨rfl, _⟩ | ⟨g, cap, _, rfl, hg, h5, _⟩
  · simp [Value.ownBlock] at hk
  · simp [Value.ownBlock] at hk
    subst hk
    exact (Array.getElem?_eq_some_iff.1 h5).1
/-- What one append leaves: the world's old blocks, and the variable that was laid ahead of it. -/
theorem appended {w wr w2 w3 : World} {A : Option Addr} {n c : Nat} {xs : List Value} {o1 o2 : Obj} (hown2 : w2.ownsRow w.heap.size 39 4 (.slice A n c) n xs) (hnx : Below w.heap.size w wr) (hb : Below wr.heap.size wr w2)
    (hg : ((w2.alloc o1).alloc o2).grownBy w3 (Value.ownBlock (.slice A n c))) : Below w.heap.size w w3 ∧ w3.heap[w2.heap.size]? = some o1 := by
  have h1 : Below w.heap.size w w2 := hnx.trans (hb.mono hnx.size)
  have hz : w.heap.size ≤ w2.heap.size := Nat.le_trans hnx.size hb.size
  constructor
  · exact ((h1.alloc hz o1).alloc (by simp; omega) o2).grown hg (by simp; omega) (own_base hown2)
  · have e : some w2.heap.size ≠ Value.ownBlock (.slice A n c) := by
      intro h
      have := ownBlock_lt hown2 _ h.symm
      omega
    rw [hg.block w2.heap.size (by simp; omega) e, Below.heap_alloc _ _ _ (by simp), heap_alloc_new]
theorem token_bad (s : ByteArray) (a : Nat) (hs : s.size ≤ 65536) (ha : a < s.size) {c : Nat} (h : Lx.tok (s.data.toList.drop a) = .error c) (w : World) (ht : Tabs w) :
    Calls Tryz.prog 16 #[.string s, .int .i64 a] w fun e w' => ∃ k x v, e = .returned (.tuple #[.agg #[.int .u8 k, .string x, .int .i64 v, .int .i64 a], .iface 63 (.agg #[.int .i64 a, .int .i64 c])]) ∧ Below w.heap.size w w' := by
  refine (token_calls s a w ht hs (by omega) (by omega)).mono ?_
  rintro e w' ⟨hb, k, x, v, err, he, h2⟩
  rw [Int.toNat_natCast, h] at h2
  subst h2
  exact ⟨k, x, v, he, hb⟩
theorem token_good (s : ByteArray) (a : Nat) (hs : s.size ≤ 65536) (ha : a < s.size) {k m v : Nat} (h : Lx.tok (s.data.toList.drop a) = .ok (k, m, v)) (w : World) (ht : Tabs w) :
    Calls Tryz.prog 16 #[.string s, .int .i64 a] w fun e w' => e = .returned (.tuple #[.agg #[.int .u8 k, .string ⟨((s.data.toList.drop a).take m).toArray⟩, .int .i64 v, .int .i64 a], .nilIface]) ∧ Below w.heap.size w w' := by
  refine (token_calls s a w ht hs (by omega) (by omega)).mono ?_
  rintro e w' ⟨hb, k', x, v', err, he, h2⟩
  rw [Int.toNat_natCast, h] at h2
  obtain ⟨rfl, rfl, rfl, hx⟩ := h2
  obtain rfl : x = ⟨((s.data.toList.drop a).take m).toArray⟩ := WideShapes.bytes_inj (by rw [hx])
  exact ⟨he, hb⟩
theorem infoTok : (Tryz.prog.info? 39).map (fun i => (i.zero, i.size, i.bytes)) = some (some (.agg #[.int .u8 0, .string ⟨#[]⟩, .int .i64 0, .int .i64 0]), 4, 40) := by kernel_rfl

theorem tokens_long (s : ByteArray) (w : World) (hs : 65536 < s.size) :
    Calls Tryz.prog 6 #[.string s] w (ToksPost s.data.toList w) := by
  have ht : Hid (Lx.tokens s.data.toList = .error (65536, 4)) := Lib.hid (by unfold Lx.tokens; rw [if_pos (by rw [Lx.len]; omega)])
  go_enter Tryz.func6, Tryz.ntmps6
  go_wp2_with (go_at_call 14; refine (fault_calls _ _ _).mono ?_; rintro e w' ⟨rfl, rfl⟩)
  go_ret2
  exact ToksPost.fault ht (Below.refl _ _)

set_option maxHeartbeats 1000000 in
set_option maxRecDepth 100000 in
theorem tokens_short (s : ByteArray) (w : World) (ht : Tabs w) (hs : s.size ≤ 65536) :
    Calls Tryz.prog 6 #[.string s] w (ToksPost s.data.toList w) := by
  have hM : s.size ≤ maxLen := by unfold maxLen; omega
  obtain ⟨i0, hi, hz0, hz1, hz2⟩ := info_parts infoTok
  have hsk := Lx.skip_le false s.data.toList
  rw [Lx.len] at hsk
  obtain ⟨a0, ha0⟩ : ∃ a0, Lx.skip false s.data.toList = a0 := ⟨_, rfl⟩
  rw [ha0] at hsk
  have hall : Hid (Lx.tokens s.data.toList = Lx.after [] (Lx.toks (s.size + 1) (s.data.toList.drop a0) a0 0)) := Lib.hid (by
    unfold Lx.tokens
    rw [if_neg (by rw [Lx.len]; omega), ha0, Lx.after_nil, Lx.len])
  have KS := Lib.hid (fun w : World => (show Calls Tryz.prog 15 #[.string s, .int .i64 0] w fun e w' => e = .returned (.int .i64 a0) ∧ w = w' by
    refine (skip_calls s 0 w hM (by omega) (by omega)).mono ?_
    rintro e w' ⟨rfl, rfl⟩
    refine ⟨ret_i64 ?_, rfl⟩
    simp [ha0]))
  clear ha0
  go_enter Tryz.func6, Tryz.ntmps6
  go_wp2_with (go_at_call 15; refine (KS.out _).mono ?_; rintro e w' ⟨rfl, rfl⟩)
  go_loopw [4, 5] (fun v i wr => ∃ (f a : Nat) (acc : List Lx.T), a ≤ s.size ∧ i = .int .i64 a ∧ wr.ownsRow w.heap.size 39 4 v acc.length (cellsOf acc) ∧ acc.length ≤ 16383 ∧ s.size < f + a ∧
      Hid (Lx.tokens s.data.toList = Lx.after acc (Lx.toks f (s.data.toList.drop a) a acc.length)) ∧ Below w.heap.size w wr)
    (fun _ i _ => s.size - (intOf i).toNat)
  case atStart => exact ⟨s.size + 1, a0, [], hsk, rfl, World.ownsRow_nil _ _ _ _, by simp, by omega, hall, Below.refl _ _⟩
  case round =>
    obtain ⟨f, a, acc, hle, rfl, hown, hacc, hf, hrest, hnx⟩ := hrel
    obtain ⟨A, c, rfl⟩ := own_slice hown
    obtain ⟨f, rfl⟩ : ∃ f', f = f' + 1 := ⟨f - 1, by omega⟩
    by_cases hlt : a < s.size
    · have hne : s.data.toList.drop a ≠ [] := by rw [Lx.drop_cons s a hlt]; simp
      have htr := ht.below hnx
      cases htok : Lx.tok (s.data.toList.drop a) with
      | error n =>
        have K := Lib.hid (token_bad s a hs hlt htok)
        have hres : Hid (Lx.tokens s.data.toList = .error (a, n)) := Lib.hid (by rw [hrest.out, Lx.toks_bad hne htok]; rfl)
        clear htok hne
        go_wp2_with (go_at_call 16; refine (K.out _ htr).mono ?_; rintro e w2 ⟨k1, x1, v1, rfl, hb⟩)
        go_ret2
        exact ToksPost.fault hres ((hnx.trans (hb.mono hnx.size)).alloc (Nat.le_trans hnx.size hb.size) _)
      | ok x =>
        obtain ⟨k, m, v⟩ := x
        have K := Lib.hid (token_good s a hs hlt htok)
        have hm := Lx.tok_pos hne htok
        rw [List.length_drop, Lx.len] at hm
        have htl : ((s.data.toList.drop a).take m).length = m := by rw [List.length_take, List.length_drop, Lx.len]; omega
        obtain ⟨x, hx⟩ : ∃ x : ByteArray, x = ⟨((s.data.toList.drop a).take m).toArray⟩ := ⟨_, rfl⟩
        have hxs : x.size = m := by rw [hx]; show (List.toArray _).size = m; rw [List.size_toArray, htl]
        rw [← hx] at K
        have hcells : Hid (tokCells ⟨k, (s.data.toList.drop a).take m, v, a⟩ = [.int .u8 k, .string x, .int .i64 v, .int .i64 a]) := Lib.hid (by rw [hx]; rfl)
        clear hx
        by_cases hfull : acc.length + 1 < 16384
        · have hmore := Lib.hid (Lx.toks_more hne htok f a acc.length hfull acc)
          have hsk := Lx.skip_le false ((s.data.toList.drop a).drop m)
          rw [List.length_drop, List.length_drop, Lx.len] at hsk
          obtain ⟨b, hb⟩ : ∃ b, b = Lx.skip false ((s.data.toList.drop a).drop m) := ⟨_, rfl⟩
          rw [← hb] at hsk
          have HB := Lib.hid hb
          have KS := Lib.hid (fun w : World => (show Calls Tryz.prog 15 #[.string s, .int .i64 ((a : Int) + x.size)] w fun e w' => e = .returned (.int .i64 ((a : Int) + x.size + b)) ∧ w = w' by
            rw [hxs]
            refine (skip_calls s (a + m) w hM (by omega) (by omega)).mono ?_
            rintro e w' ⟨rfl, rfl⟩
            refine ⟨ret_i64 ?_, rfl⟩
            rw [hb, List.drop_drop, show ((a : Int) + m).toNat = a + m from by omega]))
          have HX := Lib.hid hxs
          have hxb : x.size + b + a ≤ s.size := by omega
          have hx0 : 0 < x.size := by omega
          clear hm hsk
          clear htok hne hb htl hxs
          go_wp2_with (first
            | (go_at_call 16; refine (K.out _ htr).mono ?_; rintro e w2 ⟨rfl, hb⟩; have hown2 := own_below hown hb)
            | (at_builtin; refine wpList_append_own _ rfl _ _ 23 rfl w.heap.size 39 i0 _ 4 40 Tryz.underlying23 hi hz0 hz1 hz2 rfl (by decide) _ _ _ rfl ((hown2.alloc _).alloc _) ⟨w2.heap.size + 1, 0, none⟩ 1 1 [.int .u8 k, .string x, .int .i64 v, .int .i64 a] rfl rfl (news4 _ _ (by simp) _ _ _ _ _) (one4 _ _ _ _ ⟨rfl, rfl, rfl, rfl⟩) (by unfold maxLen; omega) (by omega) (by have := hnx.size; have := hb.size; simp; omega) ?_; intro v' w3 hown3 hgrow3 _; have happ := appended hown2 hnx hb hgrow3; have hc1 : w3.cell? ⟨w2.heap.size, 1, none⟩ = some (.string x) := (cell_of_row w3 _ 1 _ _ _ happ.2).trans rfl; have HAPP := Lib.hid happ; clear happ hgrow3)
            | (go_at_call 15; refine (KS.out _).mono ?_; rintro e w' ⟨rfl, rfl⟩))
          go_roundw
          case rel =>
            refine ⟨f, a + x.size + b, acc ++ [⟨k, (s.data.toList.drop a).take m, v, a⟩], by omega, by go_num, ?_, by simp; omega, by omega, Lib.hid ?_, HAPP.out.1⟩
            · rw [cellsOf_snoc, hcells.out, List.length_append]
              exact hown3
            · rw [hrest.out, hmore.out, ← HB.out, List.drop_drop, List.drop_drop, List.length_append, HX.out, show a + (m + b) = a + m + b from by omega]
              rfl
          case measure => simp [intOf]; omega
        · have hres : Hid (Lx.tokens s.data.toList = .error (a, 6)) := Lib.hid (by rw [hrest.out, Lx.toks_full hne htok _ _ _ (by omega)]; rfl)
          clear htok hne
          go_wp2_with (first | (go_at_call 16; refine (K.out _ htr).mono ?_; rintro e w2 ⟨rfl, hb⟩) | (go_at_call 14; refine (fault_calls _ _ _).mono ?_; rintro e w' ⟨rfl, rfl⟩))
          go_ret2
          exact ToksPost.fault hres ((hnx.trans (hb.mono hnx.size)).alloc (Nat.le_trans hnx.size hb.size) _)
    · have ha : a = s.size := by omega
      have hres : Hid (Lx.tokens s.data.toList = .ok (acc ++ [⟨0, [], 0, a⟩])) := Lib.hid (by rw [hrest.out, Lx.drop_end s a (by omega)]; rfl)
      clear ha
      go_wp2_with (at_builtin; refine wpList_append_own _ rfl _ _ 23 rfl w.heap.size 39 i0 _ 4 40 Tryz.underlying23 hi hz0 hz1 hz2 rfl (by decide) _ _ _ rfl (hown.alloc _) ⟨wr.heap.size, 0, none⟩ 1 1 [.int .u8 0, .string ⟨#[]⟩, .int .i64 0, .int .i64 a] rfl rfl (news4 _ _ rfl _ _ _ _ _) (one4 _ _ _ _ ⟨rfl, rfl, rfl, rfl⟩) (by unfold maxLen; omega) (by omega) (by have := hnx.size; simp; omega) ?_; intro v' w3 hown3 hgrow3 _)
      go_ret2
      have hbw : Below w.heap.size w w3 := (hnx.alloc hnx.size _).grown hgrow3 (by simp; have := hnx.size; omega) (own_base hown)
      exact ToksPost.tokens hres hbw (n := acc.length + 1) (by simp) (by rw [cellsOf_snoc]; exact hown3)

/-- The whole of Tokens, with the tables in place. -/
theorem tokens_calls (s : ByteArray) (w : World) (ht : Tabs w) :
    Calls Tryz.prog 6 #[.string s] w (ToksPost s.data.toList w) := by
  by_cases h : 65536 < s.size
  · exact tokens_long s w h
  · exact tokens_short s w ht (by omega)
end Go.Proofs.YtlkedogplmnpkaaGreatDoor
